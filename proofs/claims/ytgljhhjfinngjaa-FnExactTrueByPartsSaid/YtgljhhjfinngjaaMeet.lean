/- Contracts: the strings of a list that occur in another one, in the program; whether a string occurs, in the reference. No conditions beyond those stated. -/
import Derived.Test.YtgljhhjfinngjaaSet
import Derived.Test.YtgljhhjfinngjaaTrueP
import Derived.Test.YtgljhhjfinngjaaApp
set_option linter.unusedVariables false
set_option linter.unusedSimpArgs false
set_option maxRecDepth 100000
namespace Go.Proofs.Ytgljhhjfinngjaa
open Go.RowKit

theorem mem_step {l : List (List UInt8)} {k : Nat} {s : List UInt8} (h : k < l.length) (h1 : memB s (l.take k) = false) (h2 : (l[k] == s) = false) : memB s (l.take (k + 1)) = false := by
  simp only [memB_not] at *
  rw [List.take_succ_eq_append_getElem h]
  simp only [List.mem_append, List.mem_singleton, not_or]
  exact ⟨h1, by intro e; subst e; simp at h2⟩
theorem mem_hit {l : List (List UInt8)} {k : Nat} {s : List UInt8} (h : k < l.length) (h2 : (l[k] == s) = true) : memB s l = true := by
  simp only [beq_iff_eq] at h2
  subst h2
  exact memB_iff.2 (List.getElem_mem h)
theorem l1HasS_any (A : Option Addr) (n c : Nat) (l : List (List UInt8)) (s : List UInt8) (w : World) (hr : Rd w A n (strV l)) (hn : n ≤ 1048576) :
    Calls Try.prog 98 #[.slice A n c, .string (bs s)] w fun e w' => e = .returned (.bool (memB s l)) ∧ w = w' := by
  have hl := hid (show l.length = n by have := hr.1; rw [strV_len] at this; exact this)
  have RS := hid hr
  clear hr
  go_enter Try.func98, Try.ntmps98
  go_wp2
  skip
  go_loopg [9] n (fun gk v wr => ∃ k : Nat, k ≤ n ∧ gk = n - k ∧ v = .int .i64 k ∧ Hid (memB s (l.take k) = false) ∧ wr = w)
  case atStart => exact ⟨0, by omega, by omega, rfl, hid (by simp [memB]), rfl⟩
  case round =>
    obtain ⟨k, hk, rfl, rfl, hh, rfl⟩ := hrel
    by_cases hlt : k < n
    · obtain ⟨b, o, rfl, hj', hc⟩ := RS.out.str hlt
      have hk0 : (0 : Int) ≤ (k : Int) := by omega
      have hk1 : (k : Int) < (n : Int) := by omega
      cases hm : (l[k] == s)
      · have HM := hid (mem_step hj' hh.out hm)
        go_wp2
        go_roundg (n - (k + 1))
        case measure => omega
        case rel => exact ⟨k + 1, by omega, rfl, by go_num, HM, rfl⟩
      · have HM := hid (mem_hit hj' hm)
        go_wp2
        go_ret
        exact ⟨ret_bool HM.out.symm, rfl⟩
    · obtain rfl : k = n := by omega
      have h1 := hh.out
      rw [List.take_of_length_le (by rw [hl.out]; omega)] at h1
      have HM := hid h1
      clear h1
      go_wp2
      go_ret
      exact ⟨ret_bool HM.out.symm, rfl⟩

theorem meeting_any (A B : Option Addr) (n m c d : Nat) (a b : List (List UInt8)) (w : World) (ha : Rd w A n (strV a)) (hb : Rd w B m (strV b)) (hn : n ≤ 1048576) (hm : m ≤ 1048576) (sa : ∀ s ∈ a, s.length ≤ 1048576) (sb : ∀ s ∈ b, s.length ≤ 1048576) :
    Calls Try.prog 70 #[.slice A n c, .slice B m d] w (OneS w (meetL a b)) := by
  have la := hid (show a.length = n by have := ha.1; rw [strV_len] at this; exact this)
  have lb := hid (show b.length = m by have := hb.1; rw [strV_len] at this; exact this)
  have SA := hid sa
  have SB := hid sb
  have RA := hid ha
  have RB := hid hb
  clear ha hb sa sb
  have hmm := @run_makeMap Try.prog
  go_enter Try.func70, Try.ntmps70
  go_wp2
  skip
  go_loopg [14] m (fun gk v wr => ∃ k : Nat, k ≤ m ∧ gk = m - k ∧ v = .int .i64 k ∧ IsSet wr w.heap.size k (b.take k) ∧ Below w.heap.size w wr)
  case atStart => exact ⟨0, by omega, by omega, rfl, isSet_new w, (Below.refl _ _).alloc (Nat.le_refl _) _⟩
  case round =>
    obtain ⟨k, hk, rfl, rfl, ho, hb⟩ := hrel
    by_cases hlt : k < m
    · obtain ⟨b', o', rfl, hj', hc⟩ := (RB.out.below hb).str hlt
      have hsl := SB.out _ (List.getElem_mem hj')
      obtain ⟨hput, hgr, hset⟩ := putS_run ho (by omega) hsl
      have hk0 : (0 : Int) ≤ (k : Int) := by omega
      have hk1 : (k : Int) < (m : Int) := by omega
      have HG := hid hgr
      have HSET := hid hset
      have HB := hid hb
      have HJ := hid hj'
      clear hgr hset hb ho
      go_wp2
      go_roundg (m - (k + 1))
      case measure => omega
      case rel => exact ⟨k + 1, by omega, rfl, by go_num, by rw [List.take_succ_eq_append_getElem HJ.out]; exact HSET.out, HB.out.grown HG.out HB.out.size (fun q hq => by injection hq with hq; subst hq; exact Nat.le_refl _)⟩
    · obtain rfl : k = m := by omega
      rw [List.take_of_length_le (by rw [lb.out]; omega)] at ho
      have HO := hid ho
      have HB := hid hb
      have hlt0 := ho.lt
      have hbs := hb.size
      clear ho hb
      obtain ⟨w1, hw1⟩ : ∃ w1, w1 = wr := ⟨_, rfl⟩
      subst hw1
      go_wp2
      skip
      go_loopg [8, 24] n (fun gk u v wr => ∃ j : Nat, j ≤ n ∧ gk = n - j ∧ v = .int .i64 j ∧ wr.ownsRow w1.heap.size 9 1 u (meetL (a.take j) b).length (strV (meetL (a.take j) b)) ∧ Below w1.heap.size w1 wr)
      case atStart => exact ⟨0, by omega, by omega, rfl, own_of_blk (Blk.new _ _ #[]) (Nat.le_refl _) (by simp [maxLen]), (Below.refl _ _).alloc (Nat.le_refl _) _⟩
      case round =>
        obtain ⟨j, hj, rfl, rfl, ho, hb⟩ := hrel
        by_cases hlt : j < n
        · have HB2 := hid (HB.out.trans (hb.mono hbs))
          obtain ⟨b', o', rfl, hj', hc⟩ := (RA.out.below HB2.out).str hlt
          have hsl := SA.out _ (List.getElem_mem hj')
          have HLK := hid ((HO.out.below hb).look hsl)
          have hk0 : (0 : Int) ≤ (j : Int) := by omega
          have hk1 : (j : Int) < (n : Int) := by omega
          have hml : (meetL (a.take j) b).length ≤ n := Nat.le_trans (meetL_len _ _) (by simp; omega)
          have HO2 := hid ho
          have HB3 := hid hb
          have hb3 := hb.size
          clear ho hb
          cases hm : memB a[j] b
          · have HM := hid (meetL_no hj' hm)
            have hlook : _ = Result.ok (Value.bool false) _ := HLK.out.trans (congrArg (fun b => Result.ok (Value.bool b) _) hm)
            clear hm
            go_wp2
            go_roundg (n - (j + 1))
            case measure => omega
            case rel => exact ⟨j + 1, by omega, rfl, by go_num, by rw [← HM.out]; exact HO2.out, HB3.out⟩
          · have HM := hid (meetL_yes hj' hm)
            have hlook : _ = Result.ok (Value.bool true) _ := HLK.out.trans (congrArg (fun b => Result.ok (Value.bool b) _) hm)
            clear hm
            obtain ⟨X, hX⟩ : ∃ X, X = a[j] := ⟨_, rfl⟩
            obtain ⟨q, hq⟩ : ∃ q, q = (meetL (a.take j) b).length := ⟨_, rfl⟩
            have HLN := hid (show q + 1 = (meetL (a.take (j + 1)) b).length by rw [← HM.out, hq]; simp)
            rw [← hX] at HM hc hlook
            rw [← hq] at HO2 hml
            clear hX hq
            have hlim : q + 1 ≤ 1000000000000 := by omega
            go_wp2_with (at_builtin; refine app_str _ (by rfl) _ _ (by rfl) w1.heap.size _ _ _ (by rfl) (HO2.out.alloc _) (some ⟨wr.heap.size, 0, none⟩) 1 1 [X] (by rfl) (Rd.blk _ [.string (bs X)] _) hlim (by simp; omega) ?_; intro v5 w5 o5 g5)
            go_roundg (n - (j + 1))
            case measure => omega
            case rel =>
              rw [HM.out, HLN.out] at o5
              exact ⟨j + 1, by omega, rfl, by go_num, o5, (HB3.out.alloc (by omega) _).grown g5 (by simp; omega) fun q hq => (HO2.out.lt q hq).1⟩
        · obtain rfl : j = n := by omega
          rw [List.take_of_length_le (by rw [la.out]; omega)] at ho
          have HO2 := hid ho
          clear ho
          go_wp2
          go_ret
          exact ⟨_, rfl, own_mono HO2.out hbs, HB.out.trans (hb.mono hbs)⟩
end Go.Proofs.Ytgljhhjfinngjaa
