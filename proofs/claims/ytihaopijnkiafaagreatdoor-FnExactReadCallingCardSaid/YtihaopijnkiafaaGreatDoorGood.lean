/- Contracts of the tests of a method and of its calls, in the reference and in the program. No conditions beyond those stated. -/
import Derived.Test.YtihaopijnkiafaaGreatDoorCh1
import Derived.Test.YtihaopijnkiafaaGreatDoorCh3
import Derived.Test.YtihaopijnkiafaaGreatDoorWord
import Derived.Test.YtihaopijnkiafaaGreatDoorMeth
set_option linter.unusedVariables false
set_option linter.unusedSimpArgs false
set_option maxRecDepth 100000
namespace Go.Proofs.YtihaopijnkiafaaGreatDoor
open Go.RowKit

/-- Whether a list has 1 to 40 changes of stage n. -/
def chsB (n : Int) (l : List (List UInt8)) : Bool := l.all (okChange n) && (decide (1 ≤ l.length) && decide (l.length ≤ 40))
/-- Which method is valid. -/
def methB (m : Meth) : Bool := wordB m.nm && chsB m.st m.ch
theorem chsB_bad (n : Int) (l : List (List UInt8)) (k : Nat) (h : k < l.length) (hb : okChange n l[k] = false) : chsB n l = false := by
  have : l.all (okChange n) = false := by
    apply Bool.eq_false_iff.2
    intro ha
    have := List.all_eq_true.1 ha l[k] (List.getElem_mem h)
    rw [hb] at this; cases this
  simp [chsB, this]
theorem chsB_all (n : Int) (l : List (List UInt8)) (h : ∀ (k : Nat) (hk : k < l.length), okChange n l[k] = true) : chsB n l = (decide (1 ≤ l.length) && decide (l.length ≤ 40)) := by
  have : l.all (okChange n) = true := by
    rw [List.all_eq_true]
    intro x hx
    obtain ⟨k, hk, rfl⟩ := List.mem_iff_getElem.1 hx
    exact h k hk
  simp [chsB, this]
theorem chsB_len {n : Int} {l : List (List UInt8)} (h : chsB n l = true) : 1 ≤ l.length ∧ l.length ≤ 40 := by
  simp only [chsB, Bool.and_eq_true, decide_eq_true_eq] at h; exact h.2
theorem chsB_ok {n : Int} {l : List (List UInt8)} (h : chsB n l = true) {c : List UInt8} (hc : c ∈ l) : okChange n c = true := by
  simp only [chsB, Bool.and_eq_true] at h; exact List.all_eq_true.1 h.1 c hc
theorem okChange_stage {n : Int} {c : List UInt8} (h : okChange n c = true) : 3 ≤ n ∧ n ≤ 8 := by
  apply Classical.byContradiction
  intro h2
  rw [okChange_no n c h2] at h; cases h
theorem chsB_stage {n : Int} {l : List (List UInt8)} (h : chsB n l = true) : 3 ≤ n ∧ n ≤ 8 := by
  have h1 := chsB_len h
  exact okChange_stage (chsB_ok h (List.getElem_mem (show 0 < l.length by omega)))
theorem methB_chs {m : Meth} (h : methB m = true) : chsB m.st m.ch = true := by simp only [methB, Bool.and_eq_true] at h; exact h.2
theorem meth_end (m : Meth) (h : ∀ (k : Nat) (hk : k < m.ch.length), okChange m.st m.ch[k] = true) : (wordB m.nm && ((decide (3 ≤ m.st) && decide (m.st ≤ 8)) && (decide (1 ≤ m.ch.length) && decide (m.ch.length ≤ 40)))) = methB m := by
  rw [methB, chsB_all _ _ h]
  by_cases h0 : 1 ≤ m.ch.length
  · have := okChange_stage (h 0 (by omega))
    rw [decide_eq_true this.1, decide_eq_true this.2]; simp
  · simp [h0]

theorem areChanges_any (n : Int) (A : Option Addr) (m c : Nat) (l : List (List UInt8)) (w : World) (wn : (Lit.int .i64 n).wf = true) (hr : Rd w A m (strV l)) (hm : m ≤ 1048576) (hs : ∀ s ∈ l, s.length ≤ 1048576) :
    Calls Tryz.prog 57 #[.int .i64 n, .slice A m c] w fun e w' => e = .returned (.bool (chsB n l)) ∧ Below w.heap.size w w' := by
  have hl := hid (show l.length = m by have := hr.1; rw [strV_len] at this; exact this)
  have HS := hid hs
  have RS := hid hr
  have WN := hid wn
  clear hs hr wn
  by_cases h1 : m < 1
  · have HR := hid (show chsB n l = false by simp [chsB, hl.out, show ¬ 1 ≤ m by omega])
    have h1' : (m : Int) < 1 := by omega
    go_enter Tryz.func57, Tryz.ntmps57
    go_wp2
    go_ret
    exact ⟨ret_bool HR.out.symm, Below.refl _ _⟩
  · by_cases h2 : 40 < m
    · have HR := hid (show chsB n l = false by simp [chsB, hl.out, show ¬ m ≤ 40 by omega])
      have h1' : ¬ (m : Int) < 1 := by omega
      have h2' : 40 < (m : Int) := by omega
      go_enter Tryz.func57, Tryz.ntmps57
      go_wp2
      go_ret
      exact ⟨ret_bool HR.out.symm, Below.refl _ _⟩
    · have h1' : ¬ (m : Int) < 1 := by omega
      have h2' : ¬ 40 < (m : Int) := by omega
      go_enter Tryz.func57, Tryz.ntmps57
      go_wp2
      go_loopg [17] m (fun gk u wr => ∃ k : Nat, k ≤ m ∧ gk = m - k ∧ u = .int .i64 k ∧ Hid (∀ (j : Nat) (hj : j < l.length), j < k → okChange n l[j] = true) ∧ Below w.heap.size w wr)
      case atStart => exact ⟨0, by omega, by omega, rfl, hid (fun j hj h => by omega), Below.refl _ _⟩
      case round =>
        obtain ⟨k, hk, rfl, rfl, hall, hb⟩ := hrel
        by_cases hlt : k < m
        · obtain ⟨b, o, rfl, hj', hc⟩ := (RS.out.below hb).str hlt
          have hsl := HS.out _ (List.getElem_mem hj')
          have hk0 : (0 : Int) ≤ (k : Int) := by omega
          have hk1 : (k : Int) < (m : Int) := by omega
          have HB := hid hb
          have HBs := hb.size
          clear hb
          cases ho : okChange n l[k]
          · have HR := hid (chsB_bad n l k hj' ho)
            go_wp2_with fail
            refine (goodChange_any n l[k] _ WN.out hsl).mono ?_
            rw [ho]
            rintro e w2 ⟨rfl, b2⟩
            go_wp2
            go_ret
            exact ⟨ret_bool HR.out.symm, HB.out.trans (b2.mono HBs)⟩
          · have HX : ∀ (j : Nat) (hj : j < l.length), j < k + 1 → okChange n l[j] = true := fun j hj hjk => by
              by_cases e : j = k
              · subst e; exact ho
              · exact hall.out j hj (by omega)
            have HXX := hid HX
            clear HX
            go_wp2_with fail
            refine (goodChange_any n l[k] _ WN.out hsl).mono ?_
            rw [ho]
            rintro e w2 ⟨rfl, b2⟩
            have B2 := hid (HB.out.trans (b2.mono HBs))
            clear b2
            go_wp2
            go_roundg (m - (k + 1))
            case measure => omega
            case rel => exact ⟨k + 1, by omega, rfl, by go_num, HXX, B2.out⟩
        · obtain rfl : k = m := by omega
          have HR := hid (chsB_all n l fun j hj => hall.out j hj (by rw [← hl.out]; exact hj))
          go_wp2
          go_ret
          exact ⟨ret_bool (by rw [HR.out, hl.out, decide_eq_true (show 1 ≤ k by omega), decide_eq_true (show k ≤ 40 by omega)]; rfl), hb⟩

theorem goodMethod_any (m : Meth) (A : Option Addr) (n c : Nat) (w : World) (ws : (Lit.int .i64 m.st).wf = true) (hn : m.nm.length ≤ 1048576) (hr : Rd w A n (strV m.ch)) (hm : n ≤ 1048576) (hs : ∀ s ∈ m.ch, s.length ≤ 1048576) :
    Calls Tryz.prog 36 #[.agg #[.string (bs m.nm), .int .i64 m.st, .slice A n c]] w fun e w' => e = .returned (.bool (methB m)) ∧ Below w.heap.size w w' := by
  obtain ⟨nm, st, ch⟩ := m
  dsimp only at ws hn hr hs
  have HA := fun (w0 : World) (rd : Rd w0 A n (strV ch)) => hid (areChanges_any st A n c ch w0 ws rd hm hs)
  have RS := hid hr
  clear hr hs
  cases hw : wordB nm
  · have HR := hid (show methB ⟨nm, st, ch⟩ = false by simp [methB, hw])
    go_enter Tryz.func36, Tryz.ntmps36
    go_wp2_with fail
    refine (isWord_any nm _ (by omega)).mono ?_
    rw [hw]
    rintro e w2 ⟨rfl, rfl⟩
    go_wp2
    go_ret
    exact ⟨ret_bool HR.out.symm, (Below.refl _ _).alloc (Nat.le_refl _) _⟩
  · have HR := hid (show methB ⟨nm, st, ch⟩ = chsB st ch by simp [methB, hw])
    go_enter Tryz.func36, Tryz.ntmps36
    go_wp2_with fail
    refine (isWord_any nm _ (by omega)).mono ?_
    rw [hw]
    rintro e w2 ⟨rfl, rfl⟩
    go_wp2_with fail
    refine (HA _ (RS.out.alloc _)).out.mono ?_
    rintro e w2 ⟨rfl, b2⟩
    go_wp2
    go_ret
    exact ⟨ret_bool HR.out.symm, ((Below.refl _ _).alloc (Nat.le_refl _) _).trans (b2.mono (by simp))⟩

theorem l4Good_any (m : Meth) (A : Option Addr) (n c : Nat) (w : World) (ws : (Lit.int .i64 m.st).wf = true) (hn : m.nm.length ≤ 1048576) (hr : Rd w A n (strV m.ch)) (hm : n ≤ 1048576) (hs : ∀ s ∈ m.ch, s.length ≤ 1048576) :
    Calls Tryz.prog 50 #[.agg #[.string (bs m.nm), .int .i64 m.st, .slice A n c]] w fun e w' => e = .returned (.bool (methB m)) ∧ Below w.heap.size w w' := by
  have hl := hid (show m.ch.length = n by have := hr.1; rw [strV_len] at this; exact this)
  obtain ⟨nm, st, ch⟩ := m
  have HS := hid hs
  have WS := hid ws
  have RS := hid (hr.alloc (.cells #[.string (bs nm), .int .i64 st, .slice A n c] 31))
  clear hs ws hr
  go_enter Tryz.func50, Tryz.ntmps50
  go_wp2
  go_loopg [8] n (fun gk u wr => ∃ k : Nat, k ≤ n ∧ gk = n - k ∧ u = .int .i64 k ∧ Hid (∀ (j : Nat) (hj : j < ch.length), j < k → okChange st ch[j] = true) ∧ (w.alloc (.cells #[.string (bs nm), .int .i64 st, .slice A n c] 31)) = wr)
  case atStart => exact ⟨0, by omega, by omega, rfl, hid (fun j hj h => by omega), rfl⟩
  case round =>
    obtain ⟨k, hk, rfl, rfl, hall, rfl⟩ := hrel
    by_cases hlt : k < n
    · obtain ⟨b, o, rfl, hj', hc⟩ := RS.out.str hlt
      have hsl := HS.out _ (List.getElem_mem hj')
      have hk0 : (0 : Int) ≤ (k : Int) := by omega
      have hk1 : (k : Int) < (n : Int) := by omega
      cases ho : okChange st ch[k]
      · have HR := hid (show methB ⟨nm, st, ch⟩ = false by rw [methB]; simp only; rw [chsB_bad st ch k hj' ho]; simp)
        go_wp2_with fail
        refine (l2Change_any st ch[k] _ WS.out (by omega)).mono ?_
        rw [ho]
        rintro e w2 ⟨rfl, rfl⟩
        go_wp2
        go_ret
        exact ⟨ret_bool HR.out.symm, (Below.refl _ _).alloc (Nat.le_refl _) _⟩
      · have HX : ∀ (j : Nat) (hj : j < ch.length), j < k + 1 → okChange st ch[j] = true := fun j hj hjk => by
          by_cases e : j = k
          · subst e; exact ho
          · exact hall.out j hj (by omega)
        have HXX := hid HX
        clear HX
        go_wp2_with fail
        refine (l2Change_any st ch[k] _ WS.out (by omega)).mono ?_
        rw [ho]
        rintro e w2 ⟨rfl, rfl⟩
        go_wp2
        go_roundg (n - (k + 1))
        case measure => omega
        case rel => exact ⟨k + 1, by omega, rfl, by go_num, HXX, rfl⟩
    · obtain rfl : k = n := by omega
      have HR := hid (meth_end ⟨nm, st, ch⟩ fun j hj => hall.out j hj (by rw [← hl.out]; exact hj))
      have HN := fun w0 => hid (l4Name_any nm w0 (by omega))
      have HLN := hl.out
      simp only [HLN] at HR
      have HI1 := fun w0 => hid (l1In_any st 3 8 w0)
      have HI2 := fun w0 => hid (l1In_any (k : Int) 1 40 w0)
      have e4 : (decide ((1 : Int) ≤ (k : Int)) && decide ((k : Int) ≤ 40)) = (decide (1 ≤ k) && decide (k ≤ 40)) := by congr 1 <;> (apply decide_eq_decide.2; omega)
      rw [e4] at HI2
      clear e4
      obtain ⟨B1, hB1⟩ : ∃ B, B = wordB nm := ⟨_, rfl⟩
      obtain ⟨B2, hB2⟩ : ∃ B, B = (decide (3 ≤ st) && decide (st ≤ 8)) := ⟨_, rfl⟩
      obtain ⟨B3, hB3⟩ : ∃ B, B = (decide (1 ≤ k) && decide (k ≤ 40)) := ⟨_, rfl⟩
      rw [← hB1] at HN HR
      rw [← hB2] at HI1 HR
      rw [← hB3] at HI2 HR
      clear hB1 hB2 hB3 hall HLN
      cases B1
      · go_wp2_with fail
        refine (HN _).out.mono ?_
        rintro e w2 ⟨rfl, rfl⟩
        go_wp2
        go_ret
        exact ⟨ret_bool (by rw [← HR.out]; rfl), (Below.refl _ _).alloc (Nat.le_refl _) _⟩
      · cases B2
        · go_wp2_with fail
          refine (HN _).out.mono ?_
          rintro e w2 ⟨rfl, rfl⟩
          go_wp2_with fail
          refine (HI1 _).out.mono ?_
          rintro e w2 ⟨rfl, rfl⟩
          go_wp2
          go_ret
          exact ⟨ret_bool (by rw [← HR.out]; rfl), (Below.refl _ _).alloc (Nat.le_refl _) _⟩
        · go_wp2_with fail
          refine (HN _).out.mono ?_
          rintro e w2 ⟨rfl, rfl⟩
          go_wp2_with fail
          refine (HI1 _).out.mono ?_
          rintro e w2 ⟨rfl, rfl⟩
          go_wp2_with fail
          refine (HI2 _).out.mono ?_
          rintro e w2 ⟨rfl, rfl⟩
          go_wp2
          go_ret
          exact ⟨ret_bool (by rw [← HR.out]; rfl), (Below.refl _ _).alloc (Nat.le_refl _) _⟩
end Go.Proofs.YtihaopijnkiafaaGreatDoor
