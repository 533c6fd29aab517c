/- Contracts of IsCut, in the program: a cut's justification. No conditions beyond those stated. -/
import Derived.Test.YtnkpbahapaocbaaApp
import Derived.Test.YtnkpbahapaocbaaSortP
import Derived.Test.YtnkpbahapaocbaaSet
import Derived.Test.YtnkpbahapaocbaaTrueP
import Derived.Test.YtnkpbahapaocbaaCalls
import Derived.Test.YtnkpbahapaocbaaLeads
import Derived.Test.YtnkpbahapaocbaaFalseP
import Derived.Test.YtnkpbahapaocbaaRow1
import Derived.Test.YtnkpbahapaocbaaTurnR
import Derived.Test.YtnkpbahapaocbaaEndI
import Derived.Test.YtnkpbahapaocbaaCutL
import Derived.Test.YtnkpbahapaocbaaSrch
import Derived.Test.YtnkpbahapaocbaaHeadsS
import Derived.Test.YtnkpbahapaocbaaHeads
import Derived.Test.YtnkpbahapaocbaaBase
set_option linter.unusedVariables false
set_option linter.unusedSimpArgs false
set_option maxRecDepth 100000
namespace Go.Proofs.Ytnkpbahapaocbaa
open Go.RowKit

theorem l1OwnS_any (A : Option Addr) (n c : Nat) (l : List (List UInt8)) (w : World) (hr : Rd w A n (strV l)) (hn : n ≤ 100000000) :
    Calls Try.prog 34 #[.slice A n c] w (OneS w l) := by
  have hl := hid (show l.length = n by have := hr.1; rw [strV_len] at this; exact this)
  go_enter Try.func34, Try.ntmps34
  go_wp2_with (at_builtin; refine app_str _ (by rfl) _ _ (by rfl) w.heap.size _ 0 [] (by rfl) (own_of_blk (Blk.new w 9 #[]) (Nat.le_refl _) (by simp [maxLen])) A n c l (by rfl) (hr.alloc _) (by omega) (by simp) ?_; intro v5 w5 o5 g5)
  go_ret
  rw [Nat.zero_add, ← hl.out, List.nil_append] at o5
  exact ⟨_, rfl, o5, ((Below.refl _ _).alloc (Nat.le_refl _) _).grown g5 (by simp) fun q hq => by simp [Value.ownBlock] at hq; omega⟩


set_option maxHeartbeats 2000000 in
theorem l6Sort_any (n : Nat) : ∀ (A : Option Addr) (c : Nat) (l : List (List UInt8)) (w : World), Rd w A n (strV l) → n ≤ 100000000 →
    Calls Try.prog 92 #[.slice A n c] w (OneS w (sortL l)) := by
  induction n using Nat.strongRecOn with
  | ind n ih =>
    intro A c l w hr hn
    have hl := hid (show l.length = n by have := hr.1; rw [strV_len] at this; exact this)
    have IH := hid ih
    clear ih
    go_enter Try.func92, Try.ntmps92
    go_wp2_with fail
    refine (l1OwnS_any A n c l w hr hn).mono ?_
    rintro e w1 ⟨v1, rfl, o1, b1⟩
    rw [hl.out] at o1
    obtain ⟨A1, c1, rfl, hnc, hcm, rd1, fr1⟩ := own_shape o1
    have O1 := hid o1
    have B1 := hid b1
    have B1s := b1.size
    clear o1 b1 hr
    by_cases h2 : n < 2
    · have h2i : ((n : Int) < 2) := by omega
      go_wp2
      go_ret
      rw [sortL_small l (by rw [hl.out]; exact h2)]
      exact ⟨_, rfl, by rw [hl.out]; exact O1.out, B1.out⟩
    · have h2i : ¬ ((n : Int) < 2) := by omega
      obtain ⟨b, o, rfl, hcc⟩ := rd1.2 (by omega)
      have R1 := hid rd1
      clear rd1 hcc fr1
      have hlt : n / 2 < n := by omega
      have hc0 : ¬ c1 = 0 := by omega
      have hch : ¬ c1 = n / 2 := by omega
      have hw2 := IntWalk.i64_in ((n : Int) / 2) (by omega)
      have q0 : (0 : Int) ≤ (n : Int) / 2 := by omega
      have q1 : (n : Int) / 2 ≤ (c1 : Int) := by omega
      have q2 : (n : Int) / 2 ≤ (n : Int) := by omega
      have hh : ((n : Int) / 2).toNat = n / 2 := by omega
      have R2 := hid (R1.out.below (Below.refl _ _).drew)
      have ArmA := hid (show ∀ w v, v = .slice (some ⟨b, o, none⟩) ((n : Int) / 2).toNat c1 → Rd w (some ⟨b, o, none⟩) n (strV l) → Calls Try.prog 92 #[v] w (OneS w (sortL (l.take (n / 2)))) by
        rw [hh]
        rintro w v rfl h
        exact IH.out (n / 2) hlt (some ⟨b, o, none⟩) c1 (l.take (n / 2)) w (by rw [strV_take]; exact h.take_ _ (by omega)) (by omega))
      have ArmB := hid (show ∀ w v, v = .slice (some ⟨b, o + ((n : Int) / 2).toNat, none⟩) (n - ((n : Int) / 2).toNat) (c1 - ((n : Int) / 2).toNat) → Rd w (some ⟨b, o, none⟩) n (strV l) → Calls Try.prog 92 #[v] w (OneS w (sortL (l.drop (n / 2)))) by
        rw [hh]
        rintro w v rfl h
        exact IH.out (n - n / 2) (by omega) (some ⟨b, o + n / 2, none⟩) (c1 - n / 2) (l.drop (n / 2)) w (by rw [strV_drop]; exact h.drop_ _ (by omega)) (by omega))
      have hch2 : ¬ c1 = ((n : Int) / 2).toNat := by rw [hh]; exact hch
      have HH := hid hh
      have hsp := hid (sortL_split l (n / 2))
      have hla := hid (sortL_len (l.take (n / 2)))
      have hlb := hid (sortL_len (l.drop (n / 2)))
      clear hlt hh hch
      go_wp2
      go_region_held3 (fun _ => True) (trivial) (first
        | (go_at_call 92; refine (ArmA.out _ _ (by with_reducible rfl) (by first | exact R2.out | exact R2.out.below bB)).mono ?_; rintro e wA ⟨vA, rfl, oA, bA⟩)
        | (go_at_call 92; refine (ArmB.out _ _ (by with_reducible rfl) (by first | exact R2.out | exact R2.out.below bA)).mono ?_; rintro e wB ⟨vB, rfl, oB, bB⟩))
      obtain ⟨LA, hLA⟩ : ∃ L, L = sortL (l.take (n / 2)) := ⟨_, rfl⟩
      obtain ⟨LB, hLB⟩ : ∃ L, L = sortL (l.drop (n / 2)) := ⟨_, rfl⟩
      have hn2 : LA.length + LB.length = n := by
        rw [hLA, hLB, sortL_len, sortL_len, List.length_take, List.length_drop, hl.out]; omega
      rw [← hLA] at oA hsp
      rw [← hLB] at oB hsp
      clear hLA hLB hla hlb ArmA ArmB hch2 HH q0 q1 q2 hw2
      have oA2 := own_below oA bB
      obtain ⟨Aa, ca, rfl, hca, _, rdA, frA⟩ := own_shape oA2
      obtain ⟨Ab, cb, rfl, hcb, _, rdB, frB⟩ := own_shape oB
      have BB := hid (show Below w.heap.size w wB from B1.out.trans (((Below.refl _ _).drew.trans bA).mono B1s |>.trans (bB.mono (by have := bA.size; simp at this ⊢; omega))))
      have RA := hid rdA
      have RB := hid rdB
      clear frA frB oA oA2 oB rdA rdB O1 R1 R2 bA bB
      go_wp2
      go_loopg [4, 5, 6] n (fun gk u v z wr => ∃ (ra rb d : List (List UInt8)) (A B : Option Addr) (p q : Nat), gk = ra.length + rb.length ∧ d.length + ra.length + rb.length = n ∧ u = .slice A ra.length p ∧ v = .slice B rb.length q ∧ wr.ownsRow wB.heap.size 9 1 z d.length (strV d) ∧ Hid (sortL l = d ++ List.merge ra rb leS) ∧ ra.length ≤ p ∧ rb.length ≤ q ∧ Rd wB A ra.length (strV ra) ∧ Rd wB B rb.length (strV rb) ∧ Below wB.heap.size wB wr)
      case atStart => exact ⟨LA, LB, [], Aa, Ab, ca, cb, by omega, by simp; omega, rfl, rfl, World.ownsRow_nil _ _ _ _, hsp, hca, hcb, RA.out, RB.out, Below.refl _ _⟩
      case round =>
        obtain ⟨ra, rb, d, Ar, Br, p, q, rfl, hsum, rfl, rfl, od, hm, hp, hq, ra', rb', bl⟩ := hrel
        have OD := hid od
        have BL := hid bl
        have BLs := bl.size
        clear od bl RA RB
        have AA := hid ra'
        have AB := hid rb'
        have Hsum := hid hsum
        have hdl : d.length ≤ 100000000 := by omega
        have hral : ra.length ≤ 100000000 := by omega
        have hrbl : rb.length ≤ 100000000 := by omega
        clear ra' rb' hsum hn2
        rcases ra with _ | ⟨x, ra⟩
        · have hm0 := hid (show sortL l = d ++ [] ++ rb by rw [hm.out]; simp)
          simp only [List.length_nil, Nat.add_zero] at AA
          go_wp2_with (first
            | (at_builtin; refine app_str _ (by rfl) _ _ (by rfl) wB.heap.size _ _ _ (by rfl) OD.out Ar 0 p [] (by rfl) (AA.out.below BL.out) (by omega) (by omega) ?_; intro v5 w5 o5 g5)
            | (at_builtin; refine app_str _ (by rfl) _ _ (by rfl) wB.heap.size _ _ _ (by rfl) o5 Br rb.length q rb (by rfl) (AB.out.below (BL.out.grown g5 BLs fun q hq => (OD.out.lt q hq).1)) (by omega) (by have := g5.size; omega) ?_; intro v6 w6 o6 g6))
          go_ret
          have B6 : Below wB.heap.size wB w6 := (BL.out.grown g5 BLs fun q hq => (OD.out.lt q hq).1).grown g6 (by have := g5.size; omega) fun q hq => (o5.lt q hq).1
          have BBs := BB.out.size
          refine ⟨_, rfl, ?_, BB.out.trans (B6.mono BBs)⟩
          rw [hm0.out]
          have o7 := own_mono o6 BBs
          have e8 : (d ++ [] ++ rb).length = d.length + 0 + rb.length := by simp
          rw [e8]
          exact o7
        · rcases rb with _ | ⟨y, rb⟩
          · have hm0 := hid (show sortL l = d ++ (x :: ra) ++ [] by rw [hm.out]; simp)
            simp only [List.length_nil, List.length_cons, Nat.add_zero] at AA AB hral
            go_wp2_with (first
              | (at_builtin; refine app_str _ (by rfl) _ _ (by rfl) wB.heap.size _ _ _ (by rfl) OD.out Ar (ra.length + 1) p (x :: ra) (by rfl) (AA.out.below BL.out) (by omega) (by omega) ?_; intro v5 w5 o5 g5)
              | (at_builtin; refine app_str _ (by rfl) _ _ (by rfl) wB.heap.size _ _ _ (by rfl) o5 Br 0 q [] (by rfl) (AB.out.below (BL.out.grown g5 BLs fun q hq => (OD.out.lt q hq).1)) (by omega) (by have := g5.size; omega) ?_; intro v6 w6 o6 g6))
            go_ret
            have B6 : Below wB.heap.size wB w6 := (BL.out.grown g5 BLs fun q hq => (OD.out.lt q hq).1).grown g6 (by have := g5.size; omega) fun q hq => (o5.lt q hq).1
            have BBs := BB.out.size
            refine ⟨_, rfl, ?_, BB.out.trans (B6.mono BBs)⟩
            rw [hm0.out]
            have o7 := own_mono o6 BBs
            have e8 : (d ++ (x :: ra) ++ []).length = d.length + (ra.length + 1) + 0 := by simp
            rw [e8]
            exact o7
          · have hcm := hid (List.cons_merge_cons leS x y ra rb)
            obtain ⟨ba, oa, rfl, ha⟩ := AA.out.2 (by simp)
            obtain ⟨bb, ob, rfl, hb⟩ := AB.out.2 (by simp)
            have ca0 : wr.cell? ⟨ba, oa, none⟩ = some (.string (bs x)) := by
              have := ha 0 _ rfl
              exact (BL.out.cell (World.block_lt_of_cell? _ _ this)).trans this
            have cb0 : wr.cell? ⟨bb, ob, none⟩ = some (.string (bs y)) := by
              have := hb 0 _ rfl
              exact (BL.out.cell (World.block_lt_of_cell? _ _ this)).trans this
            clear ha hb
            simp only [List.length_cons] at hp hq AA AB hral hrbl
            have i0 : (0 : Int) < (ra.length : Int) + 1 := by omega
            have i1 : (0 : Int) < (rb.length : Int) + 1 := by omega
            have hsm := hid (show sortL l = d ++ (if leS x y = true then x :: List.merge ra (y :: rb) leS else y :: List.merge (x :: ra) rb leS) by rw [← hcm.out]; exact hm.out)
            cases hy : Op.bytesLess y x
            · have hle := hid (leS_of_less hy)
              by_cases hp1 : p = 1
              · subst hp1
                obtain rfl : ra = [] := List.eq_nil_of_length_eq_zero (by omega)
                go_wp2
                go_quiet (fail)
                go_wp2_with (at_builtin; refine app_str _ (by rfl) _ _ (by rfl) wB.heap.size _ _ _ (by rfl) ((own_drewN OD.out _).alloc _) (some ⟨wr.heap.size, 0, none⟩) 1 1 [x] (by rfl) (Rd.blk _ [.string (bs x)] _) (by omega) (by simp; omega) ?_; intro v5 w5 o5 g5)
                go_roundg (0 + (rb.length + 1))
                case measure => (first | omega | (simp; done) | (simp; omega))
                case rel => exact ⟨[], y :: rb, d ++ [x], some ⟨ba, oa, none⟩, some ⟨bb, ob, none⟩, 0, q, by simp, by have := Hsum.out; simp at this ⊢; omega, rfl, rfl, by rw [List.length_append]; exact o5, hid (by rw [hsm.out, if_pos hle.out, List.append_assoc]; rfl), by (first | omega | (simp; done) | (simp; omega)), by (first | omega | (simp; done) | (simp; omega)), Rd.nil _ _, AB.out, ((below_drewN BL.out _).alloc BLs _).grown g5 (by (first | omega | (simp; done) | (simp; omega))) fun q hq => (OD.out.lt q hq).1⟩
              · go_wp2
                go_quiet (fail)
                go_wp2_with (at_builtin; refine app_str _ (by rfl) _ _ (by rfl) wB.heap.size _ _ _ (by rfl) ((own_drewN OD.out _).alloc _) (some ⟨wr.heap.size, 0, none⟩) 1 1 [x] (by rfl) (Rd.blk _ [.string (bs x)] _) (by omega) (by simp; omega) ?_; intro v5 w5 o5 g5)
                go_roundg (ra.length + (rb.length + 1))
                case measure => (first | omega | (simp; done) | (simp; omega))
                case rel => exact ⟨ra, y :: rb, d ++ [x], some ⟨ba, oa + 1, none⟩, some ⟨bb, ob, none⟩, p - 1, q, by simp, by have := Hsum.out; simp at this ⊢; omega, rfl, rfl, by rw [List.length_append]; exact o5, hid (by rw [hsm.out, if_pos hle.out, List.append_assoc]; rfl), by (first | omega | (simp; done) | (simp; omega)), by (first | omega | (simp; done) | (simp; omega)), AA.out.drop_ 1 (by omega), AB.out, ((below_drewN BL.out _).alloc BLs _).grown g5 (by (first | omega | (simp; done) | (simp; omega))) fun q hq => (OD.out.lt q hq).1⟩
            · have hle := hid (not_leS hy)
              by_cases hq1 : q = 1
              · subst hq1
                obtain rfl : rb = [] := List.eq_nil_of_length_eq_zero (by omega)
                go_wp2
                go_quiet (fail)
                go_wp2_with (at_builtin; refine app_str _ (by rfl) _ _ (by rfl) wB.heap.size _ _ _ (by rfl) ((own_drewN OD.out _).alloc _) (some ⟨wr.heap.size, 0, none⟩) 1 1 [y] (by rfl) (Rd.blk _ [.string (bs y)] _) (by omega) (by simp; omega) ?_; intro v5 w5 o5 g5)
                go_roundg (ra.length + 1 + 0)
                case measure => (first | omega | (simp; done) | (simp; omega))
                case rel => exact ⟨x :: ra, [], d ++ [y], some ⟨ba, oa, none⟩, some ⟨bb, ob, none⟩, p, 0, by simp, by have := Hsum.out; simp at this ⊢; omega, rfl, rfl, by rw [List.length_append]; exact o5, hid (by rw [hsm.out, if_neg (by rw [hle.out]; decide), List.append_assoc]; rfl), by (first | omega | (simp; done) | (simp; omega)), by (first | omega | (simp; done) | (simp; omega)), AA.out, Rd.nil _ _, ((below_drewN BL.out _).alloc BLs _).grown g5 (by (first | omega | (simp; done) | (simp; omega))) fun q hq => (OD.out.lt q hq).1⟩
              · go_wp2
                go_quiet (fail)
                go_wp2_with (at_builtin; refine app_str _ (by rfl) _ _ (by rfl) wB.heap.size _ _ _ (by rfl) ((own_drewN OD.out _).alloc _) (some ⟨wr.heap.size, 0, none⟩) 1 1 [y] (by rfl) (Rd.blk _ [.string (bs y)] _) (by omega) (by simp; omega) ?_; intro v5 w5 o5 g5)
                go_roundg (ra.length + 1 + rb.length)
                case measure => (first | omega | (simp; done) | (simp; omega))
                case rel => exact ⟨x :: ra, rb, d ++ [y], some ⟨ba, oa, none⟩, some ⟨bb, ob + 1, none⟩, p, q - 1, by simp, by have := Hsum.out; simp at this ⊢; omega, rfl, rfl, by rw [List.length_append]; exact o5, hid (by rw [hsm.out, if_neg (by rw [hle.out]; decide), List.append_assoc]; rfl), by (first | omega | (simp; done) | (simp; omega)), by (first | omega | (simp; done) | (simp; omega)), AA.out, AB.out.drop_ 1 (by omega), ((below_drewN BL.out _).alloc BLs _).grown g5 (by (first | omega | (simp; done) | (simp; omega))) fun q hq => (OD.out.lt q hq).1⟩
end Go.Proofs.Ytnkpbahapaocbaa

set_option linter.unusedVariables false
set_option linter.unusedSimpArgs false
set_option maxRecDepth 100000
namespace Go.Proofs.Ytnkpbahapaocbaa
open Go.RowKit

theorem isTrue_any (A : Option Addr) (n c : Nat) (l : List (List UInt8)) (w : World) (hr : Rd w A n (strV l)) (hn : n ≤ 1048576) (hs : ∀ s ∈ l, s.length ≤ 1048576) :
    Calls Try.prog 84 #[.slice A n c] w fun e w' => e = .returned (.bool (trueB l)) ∧ Below w.heap.size w w' := by
  have hl := hid (show l.length = n by have := hr.1; rw [strV_len] at this; exact this)
  have HS := hid hs
  have RS := hid hr
  clear hs hr
  have hmm := @run_makeMap Try.prog
  go_enter Try.func84, Try.ntmps84
  go_wp2
  go_loopg [9] n (fun gk v wr => ∃ k : Nat, k ≤ n ∧ gk = n - k ∧ v = .int .i64 k ∧ Hid (trueB (l.take k) = true) ∧ IsSet wr w.heap.size k (l.take k) ∧ Below w.heap.size w wr)
  case atStart => exact ⟨0, by omega, by omega, rfl, hid (trueB_zero l), isSet_new w, (Below.refl _ _).alloc (Nat.le_refl _) _⟩
  case round =>
    obtain ⟨k, hk, rfl, rfl, hh, ho, hb⟩ := hrel
    by_cases hlt : k < n
    · obtain ⟨b, o, rfl, hj', hc⟩ := (RS.out.below hb).str hlt
      have hsl := HS.out _ (List.getElem_mem hj')
      have HLK := hid (ho.look hsl)
      obtain ⟨hput, hgr, hset⟩ := putS_run ho (by omega) hsl
      have hk0 : (0 : Int) ≤ (k : Int) := by omega
      have hk1 : (k : Int) < (n : Int) := by omega
      have HG := hid hgr
      have HSET := hid hset
      have HB := hid hb
      have HJ := hid hj'
      clear hgr hset hb ho
      cases hm : memB l[k] (l.take k)
      · have HM := hid (trueB_step hj' hh.out hm)
        have hlook : _ = Result.ok (Value.bool false) wr := HLK.out.trans (congrArg (fun b => Result.ok (Value.bool b) wr) hm)
        clear hm
        go_wp2
        go_roundg (n - (k + 1))
        case measure => omega
        case rel => exact ⟨k + 1, by omega, rfl, by go_num, HM, by rw [List.take_succ_eq_append_getElem HJ.out]; exact HSET.out, HB.out.grown HG.out HB.out.size (fun q hq => by injection hq with hq; subst hq; exact Nat.le_refl _)⟩
      · have HM := hid (trueB_bad hj' hm)
        have hlook : _ = Result.ok (Value.bool true) wr := HLK.out.trans (congrArg (fun b => Result.ok (Value.bool b) wr) hm)
        clear hm
        go_wp2
        go_ret
        exact ⟨ret_bool HM.out.symm, HB.out⟩
    · obtain rfl : k = n := by omega
      have h1 := hh.out
      rw [List.take_of_length_le (by rw [hl.out]; omega)] at h1
      have HM := hid h1
      clear h1
      go_wp2
      go_ret
      exact ⟨ret_bool HM.out.symm, hb⟩

theorem l7True_any (A : Option Addr) (n c : Nat) (l : List (List UInt8)) (w : World) (hr : Rd w A n (strV l)) (hn : n ≤ 1048576) :
    Calls Try.prog 72 #[.slice A n c] w fun e w' => e = .returned (.bool (trueB l)) ∧ Below w.heap.size w w' := by
  have hl := hid (show l.length = n by have := hr.1; rw [strV_len] at this; exact this)
  have H6 := fun w0 (rd : Rd w0 A n (strV l)) => hid (l6Sort_any n A c l w0 rd (by omega))
  go_enter Try.func72, Try.ntmps72
  go_wp2_with fail
  refine (H6 _ hr).out.mono ?_
  rintro e w1 ⟨v1, rfl, o1, b1⟩
  rw [sortL_len, hl.out] at o1
  obtain ⟨A1, c1, rfl, _, _, rd1, _⟩ := own_shape o1
  obtain ⟨s, hsd⟩ : ∃ s, s = sortL l := ⟨_, rfl⟩
  rw [← hsd] at rd1
  have HSD := hid hsd
  have hsl : s.length = n := by rw [hsd, sortL_len, hl.out]
  have HSL := hid hsl
  have B1 := hid b1
  have R1 := hid rd1
  clear hsd o1 hr b1 rd1 hsl
  go_wp2
  go_loopg [4] n (fun gk v wr => ∃ k q : Nat, (k + 1 ≤ n ∨ k = 0) ∧ gk = n - k ∧ v = .int .i64 ((k : Int) + 1) ∧ Hid (∀ j (h : j + 1 < s.length), j < k → s[j + 1] ≠ s[j]) ∧ wr = w1.drewN q)
  case atStart => exact ⟨0, 0, by omega, by omega, rfl, hid (fun j _ h => by omega), rfl⟩
  case round =>
    obtain ⟨k, q, hk, rfl, rfl, hh, rfl⟩ := hrel
    by_cases hlt : k + 1 < n
    · obtain ⟨b, o, rfl, hj', hc⟩ := R1.out.str hlt
      obtain ⟨b', o', e', hj2, hc2⟩ := R1.out.str (show k < n by omega)
      injection e' with e'
      injection e' with e1 e2 e3
      subst e1 e2
      clear e3
      have i0 : (0 : Int) ≤ (k : Int) := by omega
      have i1 : (k : Int) < (n : Int) := by omega
      have i2 : (k : Int) + 1 < (n : Int) := by omega
      have i3 : (0 : Int) ≤ (k : Int) + 1 := by omega
      have i4 : ((k : Int) + 1).toNat = k + 1 := by omega
      have hw1 : IntKind.i64.wrap ((k : Int) + 1 - 1) = (k : Int) := by rw [Int.add_sub_cancel]; exact IntWalk.i64_in _ (by omega)
      have hw2 : wrap64 (k : Int) = (k : Int) := by unfold wrap64; omega
      cases hm : (s[k + 1] == s[k])
      · have HH := hid (show ∀ j (h : j + 1 < s.length), j < k + 1 → s[j + 1] ≠ s[j] from fun j h hjk => by
          by_cases e : j = k
          · subst e; simpa using hm
          · exact hh.out j h (by omega))
        go_wp2
        go_quiet (fail)
        go_wp2
        clear hw1 hw2
        go_roundg (n - (k + 1))
        case measure => omega
        case rel => exact ⟨k + 1, _, by omega, rfl, by go_num, HH, rfl⟩
      · have HM := hid (true_sorted_bad HSD.out k (by rw [HSL.out]; exact hlt) (by simpa using hm))
        go_wp2
        go_quiet (fail)
        go_wp2
        go_ret
        exact ⟨ret_bool HM.out.symm, below_drewN (below_drewN B1.out q) _⟩
    · have HM := hid (true_sorted HSD.out fun j h => hh.out j h (by rw [HSL.out] at h; omega))
      have i2 : ¬ ((k : Int) + 1 < (n : Int)) := by omega
      go_wp2
      go_ret
      exact ⟨ret_bool HM.out.symm, below_drewN B1.out q⟩
end Go.Proofs.Ytnkpbahapaocbaa

set_option linter.unusedVariables false
set_option linter.unusedSimpArgs false
set_option maxRecDepth 100000
namespace Go.Proofs.Ytnkpbahapaocbaa
open Go.RowKit

theorem mem_step {l : List (List UInt8)} {k : Nat} {s : List UInt8} (h : k < l.length) (h1 : memB s (l.take k) = false) (h2 : (l[k] == s) = false) : memB s (l.take (k + 1)) = false := by
  simp only [memB_not] at *
  rw [List.take_succ_eq_append_getElem h]
  simp only [List.mem_append, List.mem_singleton, not_or]
  exact ⟨h1, by intro e; subst e; simp at h2⟩
theorem mem_hit {l : List (List UInt8)} {k : Nat} {s : List UInt8} (h : k < l.length) (h2 : (l[k] == s) = true) : memB s l = true := by
  simp only [beq_iff_eq] at h2
  subst h2
  exact memB_iff.2 (List.getElem_mem h)
theorem l1HasS_any (A : Option Addr) (n c : Nat) (l : List (List UInt8)) (s : List UInt8) (w : World) (hr : Rd w A n (strV l)) (hn : n ≤ 1048576) :
    Calls Try.prog 89 #[.slice A n c, .string (bs s)] w fun e w' => e = .returned (.bool (memB s l)) ∧ w = w' := by
  have hl := hid (show l.length = n by have := hr.1; rw [strV_len] at this; exact this)
  have RS := hid hr
  clear hr
  go_enter Try.func89, Try.ntmps89
  go_wp2
  skip
  go_loopg [9] n (fun gk v wr => ∃ k : Nat, k ≤ n ∧ gk = n - k ∧ v = .int .i64 k ∧ Hid (memB s (l.take k) = false) ∧ wr = w)
  case atStart => exact ⟨0, by omega, by omega, rfl, hid (by simp [memB]), rfl⟩
  case round =>
    obtain ⟨k, hk, rfl, rfl, hh, rfl⟩ := hrel
    by_cases hlt : k < n
    · obtain ⟨b, o, rfl, hj', hc⟩ := RS.out.str hlt
      have hk0 : (0 : Int) ≤ (k : Int) := by omega
      have hk1 : (k : Int) < (n : Int) := by omega
      cases hm : (l[k] == s)
      · have HM := hid (mem_step hj' hh.out hm)
        go_wp2
        go_roundg (n - (k + 1))
        case measure => omega
        case rel => exact ⟨k + 1, by omega, rfl, by go_num, HM, rfl⟩
      · have HM := hid (mem_hit hj' hm)
        go_wp2
        go_ret
        exact ⟨ret_bool HM.out.symm, rfl⟩
    · obtain rfl : k = n := by omega
      have h1 := hh.out
      rw [List.take_of_length_le (by rw [hl.out]; omega)] at h1
      have HM := hid h1
      clear h1
      go_wp2
      go_ret
      exact ⟨ret_bool HM.out.symm, rfl⟩

end Go.Proofs.Ytnkpbahapaocbaa

set_option linter.unusedVariables false
set_option linter.unusedSimpArgs false
set_option maxRecDepth 100000
namespace Go.Proofs.Ytnkpbahapaocbaa
open Go.RowKit

theorem box_mk1 (T1 : TypeId) (w : World) (nm : List UInt8) (st : Int) (v : Value) :
    Below w.heap.size w (w.alloc (.cells #[.string (bs nm), .int .i64 st, v] T1)) ∧
    (w.alloc (.cells #[.string (bs nm), .int .i64 st, v] T1)).heap.size = w.heap.size + 1 ∧
    Hid (∀ W', Below (w.alloc (.cells #[.string (bs nm), .int .i64 st, v] T1)).heap.size (w.alloc (.cells #[.string (bs nm), .int .i64 st, v] T1)) W' → Box3 W' w.heap.size (.string (bs nm)) (.int .i64 st) v) := by
  have M1 := Blk.new w T1 #[.string (bs nm), .int .i64 st, v]
  have B2 : Below w.heap.size w (w.alloc (.cells #[.string (bs nm), .int .i64 st, v] T1)) := (Below.refl _ _).alloc (Nat.le_refl _) _
  have hsz : (w.alloc (.cells #[.string (bs nm), .int .i64 st, v] T1)).heap.size = w.heap.size + 1 := by simp
  refine ⟨B2, hsz, ?_⟩
  generalize (w.alloc (.cells #[.string (bs nm), .int .i64 st, v] T1)) = W2 at *
  exact hid fun W' h => Box3.of (M1.below h (by omega))
/-- Of two methods. -/
theorem box_mkM (T1 T2 : TypeId) (w : World) (nm nm2 : List UInt8) (st st2 : Int) (v v2 : Value) :
    Below w.heap.size w ((w.alloc (.cells #[.string (bs nm), .int .i64 st, v] T1)).alloc (.cells #[.string (bs nm2), .int .i64 st2, v2] T2)) ∧
    ((w.alloc (.cells #[.string (bs nm), .int .i64 st, v] T1)).alloc (.cells #[.string (bs nm2), .int .i64 st2, v2] T2)).heap.size = w.heap.size + 1 + 1 ∧
    Hid (∀ W', Below ((w.alloc (.cells #[.string (bs nm), .int .i64 st, v] T1)).alloc (.cells #[.string (bs nm2), .int .i64 st2, v2] T2)).heap.size ((w.alloc (.cells #[.string (bs nm), .int .i64 st, v] T1)).alloc (.cells #[.string (bs nm2), .int .i64 st2, v2] T2)) W' →
      Box3 W' w.heap.size (.string (bs nm)) (.int .i64 st) v ∧ Box3 W' (w.heap.size + 1) (.string (bs nm2)) (.int .i64 st2) v2) := by
  have M1 := Blk.new w T1 #[.string (bs nm), .int .i64 st, v]
  have M2 := M1.alloc (.cells #[.string (bs nm2), .int .i64 st2, v2] T2)
  have K2 := Blk.new (w.alloc (.cells #[.string (bs nm), .int .i64 st, v] T1)) T2 #[.string (bs nm2), .int .i64 st2, v2]
  have B2 : Below w.heap.size w ((w.alloc (.cells #[.string (bs nm), .int .i64 st, v] T1)).alloc (.cells #[.string (bs nm2), .int .i64 st2, v2] T2)) := ((Below.refl _ _).alloc (Nat.le_refl _) _).alloc (by simp) _
  have hsz : ((w.alloc (.cells #[.string (bs nm), .int .i64 st, v] T1)).alloc (.cells #[.string (bs nm2), .int .i64 st2, v2] T2)).heap.size = w.heap.size + 1 + 1 := by simp
  refine ⟨B2, hsz, ?_⟩
  simp only [alloc_size] at K2
  generalize ((w.alloc (.cells #[.string (bs nm), .int .i64 st, v] T1)).alloc (.cells #[.string (bs nm2), .int .i64 st2, v2] T2)) = W2 at *
  exact hid fun W' h => ⟨Box3.of (M2.below h (by omega)), Box3.of (K2.below h (by omega))⟩
end Go.Proofs.Ytnkpbahapaocbaa

set_option linter.unusedVariables false
set_option linter.unusedSimpArgs false
set_option maxRecDepth 100000
namespace Go.Proofs.Ytnkpbahapaocbaa
open Go.RowKit

theorem row_short {l : List (List UInt8)} {N : Nat} (hi : N ≤ 8) (h : ∀ x ∈ l, IsRow x ∧ x.length = N) : ∀ s ∈ l, s.length ≤ 1048576 := fun s hs => by have := (h s hs).2; omega
theorem lead_short {N : Nat} (lo : 3 ≤ N) (hi : N ≤ 8) (cs : List (List UInt8)) : ∀ s ∈ leadL (roundsL N) cs, s.length ≤ 1048576 := fun s hs => by
  have := (lead_rows cs (rounds_row lo hi) s hs).2
  rw [rounds_len] at this; omega
theorem leadTrue_any (N : Nat) (nm : List UInt8) (cs : List (List UInt8)) (A : Option Addr) (n c : Nat) (w : World) (lo : 3 ≤ N) (hi : N ≤ 8) (hr : Rd w A n (strV cs)) (hn : n ≤ 1048576) (hs : ∀ x ∈ cs, okChange (N : Int) x = true) :
    Calls Try.prog 60 #[.agg #[.string (bs nm), .int .i64 N, .slice A n c]] w fun e w' => e = .returned (.bool (trueB (leadL (roundsL N) cs))) ∧ Below w.heap.size w w' := by
  have HR := fun w0 => hid (rounds_any N w0 hi)
  have HU := fun (w0 : World) (rd : Rd w0 A n (strV cs)) => hid (leadRows_any N nm (roundsL N) (N : Int) cs A n c w0 (rounds_row lo hi) (rounds_len N) rd hn hs)
  have HT := fun (w0 : World) A1 n1 c1 (rd : Rd w0 A1 n1 (strV (leadL (roundsL N) cs))) (h1 : n1 ≤ 1048576) => hid (isTrue_any A1 n1 c1 (leadL (roundsL N) cs) w0 rd h1 (lead_short lo hi cs))
  have hl : cs.length = n := by have := hr.1; rw [strV_len] at this; exact this
  have hll := hid (show (leadL (roundsL N) cs).length ≤ 1048576 by rw [lead_len, hl]; exact hn)
  have RS := hid hr
  clear hr hs hl
  generalize leadL (roundsL N) cs = X at *
  go_enter Try.func60, Try.ntmps60
  go_wp2_with fail
  obtain ⟨B2, hsz, HC⟩ := box_mk1 34 w nm (N : Int) (.slice A n c)
  have R2 := hid (RS.out.below B2)
  have HB2 := hid B2
  have hw2 := B2.size
  generalize (w.alloc (.cells #[.string (bs nm), .int .i64 (N : Int), .slice A n c] 34)) = W2 at *
  clear B2 hsz
  have HS3 : ∀ W', Below W2.heap.size W2 W' → W'.cell? ⟨w.heap.size, 0, none⟩ = some (.string (bs nm)) ∧ W'.cell? ⟨w.heap.size, 1, none⟩ = some (.int .i64 (N : Int)) ∧ W'.cell? ⟨w.heap.size, 2, none⟩ = some (.slice A n c) := fun W' h => by
    obtain ⟨a0, a1, a2⟩ := HC.out _ h
    exact ⟨a0, a1, a2⟩
  have HHS := hid HS3
  clear HS3 HC
  obtain ⟨n0, n1, n2⟩ := HHS.out _ (Below.refl W2.heap.size W2)
  go_region_held3 (fun w' => w'.cell? ⟨w.heap.size, 0, none⟩ = some (.string (bs nm)) ∧ w'.cell? ⟨w.heap.size, 1, none⟩ = some (.int .i64 (N : Int)) ∧ w'.cell? ⟨w.heap.size, 2, none⟩ = some (.slice A n c))
    (first | exact HHS.out _ (Below.refl _ _) | exact HHS.out _ (Below.refl _ _).drew | exact HHS.out _ Fa | exact HHS.out _ Fb)
    (first | (go_at_call 77; refine (HR _).out.mono ?_; rintro e w' ⟨rfl, rfl⟩) | (go_at_call 85; refine (HU _ (R2.out.below (Below.refl W2.heap.size W2).drew)).out.mono ?_; rintro e wa ⟨va, rfl, oa, ba⟩; obtain ⟨Aa, ca, rfl, _, _, rda, _⟩ := own_shape oa; have Fa := (Below.refl W2.heap.size W2).drew.trans (ba.mono (Nat.le_refl _))) | (go_at_call 84; refine (HT _ _ _ _ rda hll.out).out.mono ?_; rintro e wb ⟨rfl, bb⟩; have Fb := Fa.trans (bb.mono Fa.size)))
  have HFb := hid Fb
  clear oa ba rda bb Fa Fb n0 n1 n2
  go_wp2
  go_ret
  exact ⟨rfl, HB2.out.trans (HFb.out.mono hw2)⟩
end Go.Proofs.Ytnkpbahapaocbaa

set_option linter.unusedVariables false
set_option linter.unusedSimpArgs false
set_option maxRecDepth 100000
namespace Go.Proofs.Ytnkpbahapaocbaa
open Go.RowKit

/-- f is a row of stage n. -/
def rowOfB (n : Int) (f : List UInt8) : Bool := decide ((f.length : Int) = n) && rowB f
theorem rowOfB_row {N : Nat} {f : List UInt8} (h : rowOfB (N : Int) f = true) : IsRow f ∧ f.length = N := by
  simp only [rowOfB, Bool.and_eq_true, decide_eq_true_eq] at h
  exact ⟨(rowB_iff f).1 h.2, by omega⟩
theorem l11Shared_any (N : Nat) (nm f : List UInt8) (cs : List (List UInt8)) (A : Option Addr) (n c : Nat) (w : World) (lo : 3 ≤ N) (hi : N ≤ 8) (hr : Rd w A n (strV cs)) (hn : n ≤ 1048576) (hs : ∀ x ∈ cs, okChange (N : Int) x = true) (hf : IsRow f) (hN : f.length = N) :
    Calls Try.prog 65 #[.agg #[.string (bs nm), .int .i64 N, .slice A n c], .string (bs f)] w (OneS w (meetL (leadL (roundsL N) cs) (leadL f cs))) := by
  have HR := fun w0 => hid (l1Rounds_any N w0 hi)
  have HU := fun (w0 : World) (rd : Rd w0 A n (strV cs)) => hid (l11Lead_any N nm (roundsL N) (N : Int) cs A n c w0 (rounds_row lo hi) (rounds_len N) rd hn hs)
  have HF := fun (w0 : World) (rd : Rd w0 A n (strV cs)) => hid (l11Lead_any N nm f (N : Int) cs A n c w0 hf hN rd hn hs)
  have hl : cs.length = n := by have := hr.1; rw [strV_len] at this; exact this
  have hx : (leadL (roundsL N) cs).length = n := by rw [lead_len, hl]
  have hy : (leadL f cs).length = n := by rw [lead_len, hl]
  have RS := hid hr
  clear hr hs hl
  generalize leadL (roundsL N) cs = X at *
  generalize leadL f cs = Y at *
  have HX := hid hx
  have HY := hid hy
  clear hx hy
  go_enter Try.func65, Try.ntmps65
  go_wp2_with fail
  obtain ⟨B2, hsz, HC⟩ := box_mk1 34 w nm (N : Int) (.slice A n c)
  have R2 := hid (RS.out.below B2)
  have HB2 := hid B2
  have hw2 := B2.size
  generalize (w.alloc (.cells #[.string (bs nm), .int .i64 (N : Int), .slice A n c] 34)) = W2 at *
  clear B2 hsz
  have HS3 : ∀ W', Below W2.heap.size W2 W' → W'.cell? ⟨w.heap.size, 0, none⟩ = some (.string (bs nm)) ∧ W'.cell? ⟨w.heap.size, 1, none⟩ = some (.int .i64 (N : Int)) ∧ W'.cell? ⟨w.heap.size, 2, none⟩ = some (.slice A n c) := fun W' h => by
    obtain ⟨a0, a1, a2⟩ := HC.out _ h
    exact ⟨a0, a1, a2⟩
  have HHS := hid HS3
  clear HS3 HC
  refine (HF _ R2.out).out.mono ?_
  rintro e w3 ⟨v3, rfl, o3, b3⟩
  obtain ⟨A3, c3, rfl, _, _, rd3, _⟩ := own_shape o3
  have HB3 := hid b3
  have RD3 := hid rd3
  have hw3 := b3.size
  clear o3 b3 rd3
  obtain ⟨n0, n1, n2⟩ := HHS.out _ HB3.out
  go_wp2_with fail
  go_region_held3 (fun w' => w'.cell? ⟨w.heap.size, 0, none⟩ = some (.string (bs nm)) ∧ w'.cell? ⟨w.heap.size, 1, none⟩ = some (.int .i64 (N : Int)) ∧ w'.cell? ⟨w.heap.size, 2, none⟩ = some (.slice A n c))
    (first | exact HHS.out _ HB3.out | exact HHS.out _ HB3.out.drew | exact HHS.out _ Fa)
    (first | (go_at_call 47; refine (HR _).out.mono ?_; rintro e w' ⟨rfl, rfl⟩) | (go_at_call 73; refine (HU _ (R2.out.below HB3.out.drew)).out.mono ?_; rintro e wa ⟨va, rfl, oa, ba⟩; obtain ⟨Aa, ca, rfl, _, _, rda, _⟩ := own_shape oa; have Fa := HB3.out.drew.trans (ba.mono HB3.out.size)))
  have HFa := hid Fa
  have RDa := hid rda
  have RD3a := hid (RD3.out.below ((Below.refl w3.heap.size w3).drew.trans ba))
  have hwa := ba.size
  clear oa ba rda Fa n0 n1 n2
  have hxb : X.length ≤ 1048576 := by rw [HX.out]; exact hn
  go_wp2_with fail
  go_loopg [6, 18] X.length (fun gk u v wr => ∃ j : Nat, j ≤ X.length ∧ gk = X.length - j ∧ v = .int .i64 j ∧ wr.ownsRow wa.heap.size 9 1 u (meetL (X.take j) Y).length (strV (meetL (X.take j) Y)) ∧ Below wa.heap.size wa wr)
  case atStart => exact ⟨0, by omega, by omega, rfl, World.ownsRow_nil _ _ _ _, Below.refl _ _⟩
  case round =>
    obtain ⟨j, hj, rfl, rfl, ho, hb⟩ := hrel
    by_cases hlt : j < X.length
    · obtain ⟨b', o', rfl, hj', hc⟩ := (RDa.out.below hb).str hlt
      have hk0 : (0 : Int) ≤ (j : Int) := by omega
      have hk1 : (j : Int) < (X.length : Int) := by omega
      have hml : (meetL (X.take j) Y).length ≤ n := Nat.le_trans (meetL_len _ _) (by rw [List.length_take, HX.out]; omega)
      have HHas := hid (fun w0 rd0 => l1HasS_any A3 Y.length c3 Y X[j] w0 rd0 (by rw [HY.out]; exact hn))
      have HO2 := hid ho
      have HB4 := hid hb
      have hb4 := hb.size
      have RD4 := hid (RD3a.out.below hb)
      clear ho hb
      cases hm : memB X[j] Y
      · have HM := hid (meetL_no hj' hm)
        have HM2 := hid hm
        clear hm
        go_wp2_with fail
        refine (HHas.out _ RD4.out).mono ?_
        rintro e w' ⟨rfl, rfl⟩
        rw [HM2.out]
        go_wp2
        go_roundg (X.length - (j + 1))
        case measure => omega
        case rel => exact ⟨j + 1, by omega, rfl, by go_num, by rw [← HM.out]; exact HO2.out, HB4.out⟩
      · have HM := hid (meetL_yes hj' hm)
        have HM2 := hid hm
        clear hm
        obtain ⟨Z, hZ⟩ : ∃ Z, Z = X[j] := ⟨_, rfl⟩
        obtain ⟨q, hq⟩ : ∃ q, q = (meetL (X.take j) Y).length := ⟨_, rfl⟩
        have HLN := hid (show q + 1 = (meetL (X.take (j + 1)) Y).length by rw [← HM.out, hq]; simp)
        rw [← hZ] at HM hc HHas HM2
        rw [← hq] at HO2 hml
        clear hZ hq
        have hlim : q + 1 ≤ 1000000000000 := by omega
        go_wp2_with fail
        refine (HHas.out _ RD4.out).mono ?_
        rintro e w' ⟨rfl, rfl⟩
        rw [HM2.out]
        go_wp2_with (at_builtin; refine app_str _ (by rfl) _ _ (by rfl) wa.heap.size _ _ _ (by rfl) (HO2.out.alloc _) (some ⟨wr.heap.size, 0, none⟩) 1 1 [Z] (by rfl) (Rd.blk _ [.string (bs Z)] _) hlim (by simp; omega) ?_; intro v5 w5 o5 g5)
        go_roundg (X.length - (j + 1))
        case measure => omega
        case rel =>
          rw [HM.out, HLN.out] at o5
          exact ⟨j + 1, by omega, rfl, by go_num, o5, (HB4.out.alloc (by omega) _).grown g5 (by simp; omega) fun q hq => (HO2.out.lt q hq).1⟩
    · obtain rfl : j = X.length := by omega
      rw [List.take_of_length_le (Nat.le_refl _)] at ho
      have HO2 := hid ho
      clear ho
      go_wp2
      go_ret
      exact ⟨_, rfl, own_mono HO2.out (Nat.le_trans hw2 HFa.out.size), HB2.out.trans ((HFa.out.trans (hb.mono HFa.out.size)).mono hw2)⟩
end Go.Proofs.Ytnkpbahapaocbaa

set_option linter.unusedVariables false
set_option linter.unusedSimpArgs false
set_option maxRecDepth 100000
namespace Go.Proofs.Ytnkpbahapaocbaa
open Go.RowKit

/-- What IsLeadTrue answers. -/
def leadTrueR (m : Meth) : Bool × Bool := if methB m = true then (trueB (leadL (roundsL m.st.toNat) m.ch), true) else (false, false)
set_option maxHeartbeats 1000000 in
theorem specIsLeadTrue_law (m : Meth) (A : Option Addr) (n c : Nat) (w : World) (ok : LawOk m ([], [])) (rd : Rd w A n (strV m.ch)) (hcap : n ≤ c) :
    Calls Try.prog 64 #[.agg #[.string (bs m.nm), .int .i64 m.st, .slice A n c]] w fun e w' => e = .returned (.tuple #[.bool (leadTrueR m).1, .bool (leadTrueR m).2]) ∧ Below w.heap.size w w' := by
  have hn : n ≤ 1048576 := by have h1 := rd.1; have h2 := ok.2.2.1; rw [strV_len] at h1; omega
  have hcl : m.ch.length = n := by have h1 := rd.1; rw [strV_len] at h1; exact h1
  have GC0 := fun (w0 : World) (rd : Rd w0 A n (strV m.ch)) => hid (l4Good_any m A n c w0 ok.1 ok.2.1 rd hn ok.2.2.2.1)
  have RS := hid rd
  have HOK := hid ok
  clear rd ok
  cases hg0 : methB m
  · rw [hg0] at GC0
    have HR := hid (show leadTrueR m = (false, false) from by unfold leadTrueR; rw [if_neg (by simp [hg0])])
    obtain ⟨nm, st, ch⟩ := m
    dsimp only at *
    clear HOK hg0
    go_enter Try.func64, Try.ntmps64
    go_wp2_with fail
    obtain ⟨B2, hsz, HC⟩ := box_mk1 34 w nm st (.slice A n c)
    have R2 := hid (RS.out.below B2)
    have HB2 := hid B2
    have hw2 := B2.size
    generalize (w.alloc (.cells #[.string (bs nm), .int .i64 st, .slice A n c] 34)) = W2 at *
    clear B2 hsz
    have HS5 : ∀ W', Below W2.heap.size W2 W' → W'.cell? ⟨w.heap.size, 0, none⟩ = some (.string (bs nm)) ∧ W'.cell? ⟨w.heap.size, 1, none⟩ = some (.int .i64 st) ∧ W'.cell? ⟨w.heap.size, 2, none⟩ = some (.slice A n c) := fun W' h => by
      obtain ⟨a0, a1, a2⟩ := HC.out _ h
      exact ⟨a0, a1, a2⟩
    have HHS5 := hid HS5
    clear HS5 HC
    have E0 : Hid (Below W2.heap.size W2 W2) := hid (Below.refl _ _)
    obtain ⟨n0, n1, n2⟩ := HHS5.out _ E0.out
    refine (GC0 _ (R2.out.below E0.out)).out.mono ?_
    rintro e wx0 ⟨rfl, bx⟩
    have E1 := hid (E0.out.trans (bx.mono E0.out.size))
    clear bx
    clear n0 n1 n2
    obtain ⟨n0, n1, n2⟩ := HHS5.out _ E1.out
    go_wp2
    go_ret2
    rw [HR.out]
    exact ⟨rfl, HB2.out.trans (E1.out.mono hw2)⟩
  · rw [hg0] at GC0
    have hm : methB m = true := by exact hg0
    have HR := hid (show leadTrueR m = (trueB (leadL (roundsL m.st.toNat) m.ch), true) from by unfold leadTrueR; rw [if_pos (by simp [hg0])])
    obtain ⟨N, hN, lo, hi, l1, l40, hs⟩ := meth_parts hm
    clear hm
    obtain ⟨nm, st, ch⟩ := m
    dsimp only at *
    subst hN
    have BC0 := fun (w0 : World) (rd : Rd w0 A n (strV ch)) => hid (l11Lead_any N nm (roundsL N) (N : Int) ch A n c w0 (rounds_row lo hi) (rounds_len N) rd hn hs)
    have BC1 := fun (w0 : World) => hid (l1Rounds_any N w0 hi)
    have BC2 := fun (w0 : World) A1 n1 c1 (rd : Rd w0 A1 n1 (strV (leadL (roundsL N) ch))) (h1 : n1 ≤ 1048576) => hid (l7True_any A1 n1 c1 (leadL (roundsL N) ch) w0 rd h1)
    have HLL := hid (show (leadL (roundsL N) ch).length ≤ 1048576 by rw [lead_len]; omega)
    clear HOK hs hcl hg0
    go_enter Try.func64, Try.ntmps64
    go_wp2_with fail
    obtain ⟨B2, hsz, HC⟩ := box_mk1 34 w nm (N : Int) (.slice A n c)
    have R2 := hid (RS.out.below B2)
    have HB2 := hid B2
    have hw2 := B2.size
    generalize (w.alloc (.cells #[.string (bs nm), .int .i64 (N : Int), .slice A n c] 34)) = W2 at *
    clear B2 hsz
    have HS5 : ∀ W', Below W2.heap.size W2 W' → W'.cell? ⟨w.heap.size, 0, none⟩ = some (.string (bs nm)) ∧ W'.cell? ⟨w.heap.size, 1, none⟩ = some (.int .i64 (N : Int)) ∧ W'.cell? ⟨w.heap.size, 2, none⟩ = some (.slice A n c) := fun W' h => by
      obtain ⟨a0, a1, a2⟩ := HC.out _ h
      exact ⟨a0, a1, a2⟩
    have HHS5 := hid HS5
    clear HS5 HC
    have E0 : Hid (Below W2.heap.size W2 W2) := hid (Below.refl _ _)
    obtain ⟨n0, n1, n2⟩ := HHS5.out _ E0.out
    refine (GC0 _ (R2.out.below E0.out)).out.mono ?_
    rintro e wx0 ⟨rfl, bx⟩
    have E1 := hid (E0.out.trans (bx.mono E0.out.size))
    clear bx
    clear n0 n1 n2
    obtain ⟨n0, n1, n2⟩ := HHS5.out _ E1.out
    go_wp2_with fail
    go_region_held3 (fun w' => w'.cell? ⟨w.heap.size, 0, none⟩ = some (.string (bs nm)) ∧ w'.cell? ⟨w.heap.size, 1, none⟩ = some (.int .i64 (N : Int)) ∧ w'.cell? ⟨w.heap.size, 2, none⟩ = some (.slice A n c))
      (first | exact HHS5.out _ E1.out | exact HHS5.out _ E1.out.drew | exact HHS5.out _ Fa | exact HHS5.out _ Fb)
      (first | (go_at_call 47; refine (BC1 _).out.mono ?_; rintro e w' ⟨rfl, rfl⟩) | (go_at_call 73; refine (BC0 _ (R2.out.below E1.out.drew)).out.mono ?_; rintro e wa ⟨va, rfl, oa, ba⟩; obtain ⟨Aa, ca, rfl, _, _, rda, _⟩ := own_shape oa; have Fa := E1.out.drew.trans (ba.mono E1.out.size)) | (go_at_call 72; refine (BC2 _ _ _ _ rda HLL.out).out.mono ?_; rintro e wb ⟨rfl, bb⟩; have Fb := Fa.trans (bb.mono Fa.size)))
    have E2 := hid Fb
    have E3 := E2
    have E4 := E2
    clear oa ba rda bb Fa Fb n0 n1 n2
    obtain ⟨n0, n1, n2⟩ := HHS5.out _ E4.out
    go_wp2
    go_ret2
    rw [HR.out]
    exact ⟨rfl, HB2.out.trans (E4.out.mono hw2)⟩
end Go.Proofs.Ytnkpbahapaocbaa

set_option linter.unusedVariables false
set_option linter.unusedSimpArgs false
set_option maxRecDepth 100000
namespace Go.Proofs.Ytnkpbahapaocbaa
open Go.RowKit

/-- A set of strings comes back; it is the call's own. -/
def SetR (w : World) (acc : List (List UInt8)) (e : Ending) (w' : World) : Prop := ∃ g q, e = .returned (.map (some g)) ∧ q ≤ 10000000 ∧ IsSet w' g q acc ∧ w.heap.size ≤ g ∧ Below w.heap.size w w'
theorem quotL_zero (rs ss : List (List UInt8)) : quotL (rs.take 0) ss = [] := by simp [quotL]
theorem quotL_step (rs ss : List (List UInt8)) (k : Nat) (h : k < rs.length) : quotL (rs.take k) ss ++ (ss.map fun s => timesL rs[k] (turnL s)) = quotL (rs.take (k + 1)) ss := by
  unfold quotL
  rw [List.take_succ_eq_append_getElem h, List.flatMap_append]
  simp
theorem map_take_step {α β : Type} (f : α → β) (ss : List α) (j : Nat) (h : j < ss.length) : (ss.take j).map f ++ [f ss[j]] = (ss.take (j + 1)).map f := by
  rw [List.take_succ_eq_append_getElem h, List.map_append]; rfl
set_option maxHeartbeats 2000000 in
theorem falseSet_any (N : Nat) (nm nm2 : List UInt8) (ca cb : List (List UInt8)) (A B : Option Addr) (n c m d : Nat) (w : World) (lo : 3 ≤ N) (hi : N ≤ 8) (hra : Rd w A n (strV ca)) (hrb : Rd w B m (strV cb)) (hn : n ≤ 1000) (hm : m ≤ 1000) (hsa : ∀ x ∈ ca, okChange (N : Int) x = true) (hsb : ∀ x ∈ cb, okChange (N : Int) x = true) :
    Calls Try.prog 61 #[.agg #[.string (bs nm), .int .i64 N, .slice A n c], .agg #[.string (bs nm2), .int .i64 N, .slice B m d]] w (SetR w (quotL (leadL (roundsL N) ca) (leadL (roundsL N) cb))) := by
  have HR := fun w0 => hid (rounds_any N w0 hi)
  have HUa := fun (w0 : World) (rd : Rd w0 A n (strV ca)) => hid (leadRows_any N nm (roundsL N) (N : Int) ca A n c w0 (rounds_row lo hi) (rounds_len N) rd (by omega) hsa)
  have HUb := fun (w0 : World) (rd : Rd w0 B m (strV cb)) => hid (leadRows_any N nm2 (roundsL N) (N : Int) cb B m d w0 (rounds_row lo hi) (rounds_len N) rd (by omega) hsb)
  have la : (leadL (roundsL N) ca).length = n := by have := hra.1; rw [strV_len] at this; rw [lead_len, this]
  have lb : (leadL (roundsL N) cb).length = m := by have := hrb.1; rw [strV_len] at this; rw [lead_len, this]
  have rowsA := hid (lead_rows ca (rounds_row lo hi))
  have rowsB := hid (lead_rows cb (rounds_row lo hi))
  have RA := hid hra
  have RB := hid hrb
  clear hra hrb hsa hsb
  unfold OneS at HUa HUb
  rw [la] at HUa
  rw [lb] at HUb
  rw [rounds_len] at rowsA rowsB
  generalize leadL (roundsL N) ca = X at *
  generalize leadL (roundsL N) cb = Y at *
  have LA := hid la
  have LB := hid lb
  clear la lb
  have hmm := @run_makeMap Try.prog
  obtain ⟨B2, hsz, HC⟩ := box_mkM 34 34 w nm nm2 (N : Int) (N : Int) (.slice A n c) (.slice B m d)
  have RA2 := hid (RA.out.below B2)
  have RB2 := hid (RB.out.below B2)
  have HB2 := hid B2
  have hw2 := B2.size
  have HSZ := hid hsz
  go_enter Try.func61, Try.ntmps61
  go_wp2_with fail
  clear hsz B2
  generalize ((w.alloc (.cells #[.string (bs nm), .int .i64 (N : Int), .slice A n c] 34)).alloc (.cells #[.string (bs nm2), .int .i64 (N : Int), .slice B m d] 34)) = W2 at *
  rw [← HSZ.out]
  have HS5 : ∀ W', Below W2.heap.size W2 W' → W'.cell? ⟨w.heap.size, 0, none⟩ = some (.string (bs nm)) ∧ W'.cell? ⟨w.heap.size, 1, none⟩ = some (.int .i64 (N : Int)) ∧ W'.cell? ⟨w.heap.size, 2, none⟩ = some (.slice A n c) ∧ W'.cell? ⟨w.heap.size + 1, 0, none⟩ = some (.string (bs nm2)) ∧ W'.cell? ⟨w.heap.size + 1, 1, none⟩ = some (.int .i64 (N : Int)) ∧ W'.cell? ⟨w.heap.size + 1, 2, none⟩ = some (.slice B m d) := fun W' h => by
    obtain ⟨⟨a0, a1, a2⟩, a3, a4, a5⟩ := HC.out _ h
    exact ⟨a0, a1, a2, a3, a4, a5⟩
  have HHS := hid HS5
  clear HS5 HC
  have S0 := hid (isSet_new W2)
  have HB3 := hid ((Below.refl W2.heap.size W2).alloc (Nat.le_refl _) (.map #[] 0))
  generalize W2.alloc (.map #[] 0) = W3 at *
  have hw3 := HB3.out.size
  obtain ⟨n0, n1, n2, q0, q1, q2⟩ := HHS.out _ HB3.out
  go_region_held3 (fun w' => w'.cell? ⟨w.heap.size, 0, none⟩ = some (.string (bs nm)) ∧ w'.cell? ⟨w.heap.size, 1, none⟩ = some (.int .i64 (N : Int)) ∧ w'.cell? ⟨w.heap.size, 2, none⟩ = some (.slice A n c) ∧ w'.cell? ⟨w.heap.size + 1, 0, none⟩ = some (.string (bs nm2)) ∧ w'.cell? ⟨w.heap.size + 1, 1, none⟩ = some (.int .i64 (N : Int)) ∧ w'.cell? ⟨w.heap.size + 1, 2, none⟩ = some (.slice B m d))
    (first | exact HHS.out _ HB3.out | exact HHS.out _ HB3.out.drew | exact HHS.out _ Fa)
    (first | (go_at_call 77; refine (HR _).out.mono ?_; rintro e w' ⟨rfl, rfl⟩) | (go_at_call 85; refine (HUa _ (RA2.out.below HB3.out.drew)).out.mono ?_; rintro e wa ⟨va, rfl, oa, ba⟩; obtain ⟨Aa, ca', rfl, _, _, rda, fra⟩ := own_shape oa; have Fa := HB3.out.drew.trans (ba.mono HB3.out.size)))
  have HFa := hid Fa
  have RDa := hid rda
  have HNA := hid (show ∀ b o, Aa = some ⟨b, o, none⟩ → W2.heap.size < b from fun b o h => Nat.lt_of_lt_of_le S0.out.lt (fra b o none h).1)
  have Sa := hid (S0.out.below ((Below.refl W3.heap.size W3).drew.trans ba))
  have hwa := Fa.size
  clear oa ba rda fra Fa n0 n1 n2 q0 q1 q2
  go_wp2_with fail
  have hkm : ∀ k, k ≤ n → k * m ≤ 1000000 := fun k hk => Nat.le_trans (Nat.mul_le_mul (Nat.le_trans hk hn) hm) (by omega)
  have HKM := hid hkm
  clear hkm
  go_loopg [17] n (fun gk v wr => ∃ k : Nat, k ≤ n ∧ gk = n - k ∧ v = .int .i64 k ∧ IsSet wr W2.heap.size (k * m) (quotL (X.take k) Y) ∧ Below W2.heap.size W2 wr ∧ Rd wr Aa n (strV X))
  case atStart => exact ⟨0, by omega, by omega, rfl, by rw [quotL_zero]; exact Sa.out.le (by omega), HFa.out, RDa.out⟩
  case round =>
    obtain ⟨k, hk, rfl, rfl, hS, hb, hx⟩ := hrel
    by_cases hlt : k < n
    · obtain ⟨b', o', rfl, hj', hc⟩ := hx.str hlt
      have hk0 : (0 : Int) ≤ (k : Int) := by omega
      have hk1 : (k : Int) < (n : Int) := by omega
      have rowk := hid (rowsA.out _ (List.getElem_mem hj'))
      have HSTEP := hid (quotL_step X Y k hj')
      have HS := hid hS
      have HB := hid hb
      have HX := hid hx
      have hbs := hb.size
      have hkm := HKM.out k hk
      obtain ⟨r, hr⟩ : ∃ r, r = X[k] := ⟨_, rfl⟩
      rw [← hr] at hc rowk HSTEP
      clear hS hb hx hr
      obtain ⟨n0, n1, n2, q0, q1, q2⟩ := HHS.out _ HB.out
      go_wp2_with fail
      go_region_held3 (fun w' => w'.cell? ⟨w.heap.size, 0, none⟩ = some (.string (bs nm)) ∧ w'.cell? ⟨w.heap.size, 1, none⟩ = some (.int .i64 (N : Int)) ∧ w'.cell? ⟨w.heap.size, 2, none⟩ = some (.slice A n c) ∧ w'.cell? ⟨w.heap.size + 1, 0, none⟩ = some (.string (bs nm2)) ∧ w'.cell? ⟨w.heap.size + 1, 1, none⟩ = some (.int .i64 (N : Int)) ∧ w'.cell? ⟨w.heap.size + 1, 2, none⟩ = some (.slice B m d))
        (first | exact HHS.out _ HB.out | exact HHS.out _ HB.out.drew | exact HHS.out _ Fb)
        (first | (go_at_call 77; refine (HR _).out.mono ?_; rintro e w' ⟨rfl, rfl⟩) | (go_at_call 85; refine (HUb _ (RB2.out.below HB.out.drew)).out.mono ?_; rintro e wb ⟨vb, rfl, ob, bb⟩; obtain ⟨Ab, cb', rfl, _, _, rdb, frb⟩ := own_shape ob; have Fb := HB.out.drew.trans (bb.mono HB.out.size)))
      have BRW := (Below.refl wr.heap.size wr).drew.trans bb
      have HFb := hid Fb
      have RDb := hid rdb
      have HNB := hid (show ∀ b o, Ab = some ⟨b, o, none⟩ → W2.heap.size < b from fun b o h => Nat.lt_of_lt_of_le HS.out.lt (frb b o none h).1)
      have RXb := hid (HX.out.below BRW)
      have Sb := hid (HS.out.below BRW)
      have hgb := BRW.size
      clear ob bb rdb frb Fb BRW n0 n1 n2 q0 q1 q2
      obtain ⟨w1, hw1⟩ : ∃ w1, w1 = wr := ⟨_, rfl⟩
      subst hw1
      go_wp2_with fail
      go_loopg [27] m (fun gk v wr => ∃ j : Nat, j ≤ m ∧ gk = m - j ∧ v = .int .i64 j ∧ IsSet wr W2.heap.size (k * m + j) (quotL (X.take k) Y ++ (Y.take j).map fun s => timesL r (turnL s)) ∧ Below W2.heap.size W2 wr ∧ Rd wr Ab m (strV Y) ∧ Rd wr (some ⟨b', o', none⟩) n (strV X))
      case atStart => exact ⟨0, by omega, by omega, rfl, by simpa using Sb.out, HFb.out, RDb.out, RXb.out⟩
      case round =>
        obtain ⟨j, hj, rfl, rfl, hS, hb, hy, hx⟩ := hrel
        by_cases hlj : j < m
        · obtain ⟨b2, o2, rfl, hj2, hc2⟩ := hy.str hlj
          have hj0 : (0 : Int) ≤ (j : Int) := by omega
          have hj1 : (j : Int) < (m : Int) := by omega
          have rowj := rowsB.out _ (List.getElem_mem hj2)
          have HMT := hid (map_take_step (fun s => timesL r (turnL s)) Y j hj2)
          have HT := hid (fun w0 => turned_any Y[j] w0 rowj.1)
          have HTM := hid (fun w0 => times_any r (turnL Y[j]) w0 rowk.out.1 (turn_row rowj.1) (by rw [turn_len, rowj.2, rowk.out.2]))
          obtain ⟨Z, hZ⟩ : ∃ Z, Z = timesL r (turnL Y[j]) := ⟨_, rfl⟩
          have hzl : Z.length ≤ 1048576 := by rw [hZ, times_len, turn_len, rowj.2]; omega
          rw [← hZ] at HTM
          rw [← hZ] at HMT
          have HS2 := hid hS
          have HB2' := hid hb
          have HY2 := hid hy
          have HX2 := hid hx
          have hbs2 := hb.size
          clear hS hb hy hx hZ rowj
          go_wp2_with fail
          refine (HT.out _).mono ?_
          rintro e w2 ⟨rfl, c2⟩
          go_wp2_with fail
          refine (HTM.out _).mono ?_
          rintro e w3 ⟨rfl, c3⟩
          have BR := c2.trans (c3.mono c2.size)
          have hmj : k * m + j ≤ 1000000000 := by omega
          obtain ⟨hput, hgr, hset⟩ := putS_run (HS2.out.below BR) hmj hzl
          have HG := hid hgr
          have HSET := hid hset
          have HB3' := hid (HB2'.out.trans (BR.mono hbs2))
          have HY3 := hid (HY2.out.below BR)
          have HX3 := hid (HX2.out.below BR)
          have hRg : W2.heap.size < w3.heap.size := Nat.lt_of_lt_of_le HS2.out.lt BR.size
          clear hgr hset c2 c3 BR hc2
          go_wp2
          go_roundg (m - (j + 1))
          case measure => omega
          case rel =>
            refine ⟨j + 1, by omega, rfl, by go_num, ?_, HB3'.out.grown HG.out HB3'.out.size (fun q hq => by injection hq with hq; subst hq; exact Nat.le_refl _), HY3.out.grown HG.out (fun b o e q => by injection q with q; have := HNB.out b o e; omega), HX3.out.grown HG.out (fun b o e q => by injection q with q; have := HNA.out b o e; omega)⟩
            have h1 := HSET.out
            rw [List.append_assoc, HMT.out] at h1
            exact h1
        · obtain rfl : j = m := by omega
          have e1 : (Y.take j).map (fun s => timesL r (turnL s)) = Y.map fun s => timesL r (turnL s) := by rw [List.take_of_length_le (by rw [LB.out]; omega)]
          rw [e1, HSTEP.out] at hS
          have HS2 := hid hS
          have HB2' := hid hb
          have HX2 := hid hx
          clear hS hb hy hx e1
          go_wp2
          go_roundg (n - (k + 1))
          case measure => omega
          case rel => exact ⟨k + 1, by omega, rfl, by go_num, HS2.out.le (by rw [Nat.succ_mul]; exact Nat.le_refl _), HB2'.out, HX2.out⟩
    · obtain rfl : k = n := by omega
      rw [List.take_of_length_le (by rw [LA.out]; omega)] at hS
      have HS := hid hS
      clear hS
      go_wp2
      go_ret
      exact ⟨_, _, rfl, Nat.le_trans (HKM.out _ (Nat.le_refl _)) (by omega), HS.out, hw2, HB2.out.trans (hb.mono hw2)⟩
end Go.Proofs.Ytnkpbahapaocbaa

set_option linter.unusedVariables false
set_option linter.unusedSimpArgs false
set_option maxRecDepth 100000
namespace Go.Proofs.Ytnkpbahapaocbaa
open Go.RowKit

theorem quot_meetN {N : Nat} {f : List UInt8} (ca cb : List (List UInt8)) (hf : IsRow f ∧ f.length = N) : memB f (quotL (leadL (roundsL N) ca) (leadL (roundsL N) cb)) = decide (0 < (meetL (leadL (roundsL N) ca) (leadL f cb)).length) := by
  obtain ⟨h1, rfl⟩ := hf
  exact quot_meet ca cb h1
/-- What IsFalseHead answers. -/
def isFalseR (m : Meth) (f : List UInt8) : Bool × Bool := if (methB m && rowOfB m.st f) = true then (decide (0 < (meetL (leadL (roundsL m.st.toNat) m.ch) (leadL f m.ch)).length), true) else (false, false)
end Go.Proofs.Ytnkpbahapaocbaa

set_option linter.unusedVariables false
set_option linter.unusedSimpArgs false
set_option maxRecDepth 100000
namespace Go.Proofs.Ytnkpbahapaocbaa
open Go.RowKit

theorem goodTouch_len {t : List UInt8} (h : goodTouch t = true) : t.length ≤ 1000 := by
  simp only [goodTouch, Bool.and_eq_true, decide_eq_true_eq] at h; omega
theorem goodTouch_calls {t : List UInt8} (h : goodTouch t = true) : t.all callB = true := by
  simp only [goodTouch, Bool.and_eq_true] at h; first | exact h.2 | exact h.1.2 | exact h.1.1 | exact h.1
/-- What TouchEnd answers. -/
def touchEndR (m : Meth) (k : List UInt8 × List UInt8) (t : List UInt8) : List UInt8 × Bool := if (callsB m k && goodTouch t) = true then (headTo m.st.toNat m.ch k t t.length, true) else ([], false)
/-- What IsRound answers. -/
def isRoundR (m : Meth) (k : List UInt8 × List UInt8) (t : List UInt8) : Bool × Bool := if (callsB m k && goodTouch t) = true then (headTo m.st.toNat m.ch k t t.length == roundsL m.st.toNat, true) else (false, false)
end Go.Proofs.Ytnkpbahapaocbaa

set_option linter.unusedVariables false
set_option linter.unusedSimpArgs false
set_option maxRecDepth 100000
namespace Go.Proofs.Ytnkpbahapaocbaa
open Go.RowKit

/-- The rows of a touch. -/
def touchL (N : Nat) (cs : List (List UInt8)) (k : List UInt8 × List UInt8) (t : List UInt8) : List (List UInt8) := leadsL cs ((headsTo N cs k t t.length).take t.length)
theorem touchL_len (N : Nat) (cs : List (List UInt8)) (k : List UInt8 × List UInt8) (t : List UInt8) : (touchL N cs k t).length = t.length * cs.length := by
  rw [touchL, leadsL_len, List.length_take, headsTo_len, Nat.min_eq_left (by omega)]
theorem headsTo_rows {N : Nat} (lo : 3 ≤ N) (hi : N ≤ 8) (cs : List (List UInt8)) (k : List UInt8 × List UInt8) (t : List UInt8) (j : Nat) : ∀ x ∈ headsTo N cs k t j, IsRow x ∧ x.length = N := by
  intro x hx
  simp only [headsTo, List.mem_map] at hx
  obtain ⟨i, _, rfl⟩ := hx
  exact headTo_row lo hi cs k t i
theorem heads_take_rows {N : Nat} (lo : 3 ≤ N) (hi : N ≤ 8) (cs : List (List UInt8)) (k : List UInt8 × List UInt8) (t : List UInt8) (j q : Nat) : ∀ x ∈ (headsTo N cs k t j).take q, IsRow x ∧ x.length = N :=
  fun x hx => headsTo_rows lo hi cs k t j x (List.mem_of_mem_take hx)
theorem touchL_rows {N : Nat} (lo : 3 ≤ N) (hi : N ≤ 8) (cs : List (List UInt8)) (k : List UInt8 × List UInt8) (t : List UInt8) : ∀ x ∈ touchL N cs k t, IsRow x ∧ x.length = N :=
  leadsL_rows cs (heads_take_rows lo hi cs k t _ _)
theorem rd_take {w : World} {A : Option Addr} {n k : Nat} {l : List (List UInt8)} (h : Rd w A n (strV l)) (hk : k ≤ n) : Rd w A k (strV (l.take k)) := by
  rw [strV_take]; exact h.take_ k hk
/-- The rows of a touch, if there are not too many. -/
def rowsR (N : Nat) (cs : List (List UInt8)) (k : List UInt8 × List UInt8) (t : List UInt8) : List (List UInt8) × Bool := if t.length * cs.length ≤ 800 then (touchL N cs k t, true) else ([], false)
end Go.Proofs.Ytnkpbahapaocbaa

namespace Go.Proofs.Ytnkpbahapaocbaa
end Go.Proofs.Ytnkpbahapaocbaa

set_option linter.unusedVariables false
set_option linter.unusedSimpArgs false
set_option maxRecDepth 100000
namespace Go.Proofs.Ytnkpbahapaocbaa
open Go.RowKit

theorem cset3_below {w w1 : World} {b g : Nat} (h : Below b w w1) (hg : b ≤ g) (x y z : Value) : Below b w (((w1.setCell ⟨g, 0, none⟩ x).setCell ⟨g, 1, none⟩ y).setCell ⟨g, 2, none⟩ z) :=
  ((h.setCell (p := ⟨g, 0, none⟩) hg _).setCell (p := ⟨g, 1, none⟩) hg _).setCell (p := ⟨g, 2, none⟩) hg _
/-- The boxes of a method, of its calls, and of a cut. -/
theorem box_mkC (T1 T2 T3 : TypeId) (w : World) (nm k1 k2 cp : List UInt8) (st cy cz : Int) (v : Value) :
    Below w.heap.size w (((w.alloc (.cells #[.string (bs nm), .int .i64 st, v] T1)).alloc (.cells #[.string (bs k1), .string (bs k2)] T2)).alloc (.cells #[.string (bs cp), .int .i64 cy, .int .i64 cz] T3)) ∧
    (((w.alloc (.cells #[.string (bs nm), .int .i64 st, v] T1)).alloc (.cells #[.string (bs k1), .string (bs k2)] T2)).alloc (.cells #[.string (bs cp), .int .i64 cy, .int .i64 cz] T3)).heap.size = w.heap.size + 1 + 1 + 1 ∧
    Hid (∀ W', Below (((w.alloc (.cells #[.string (bs nm), .int .i64 st, v] T1)).alloc (.cells #[.string (bs k1), .string (bs k2)] T2)).alloc (.cells #[.string (bs cp), .int .i64 cy, .int .i64 cz] T3)).heap.size (((w.alloc (.cells #[.string (bs nm), .int .i64 st, v] T1)).alloc (.cells #[.string (bs k1), .string (bs k2)] T2)).alloc (.cells #[.string (bs cp), .int .i64 cy, .int .i64 cz] T3)) W' →
      Box3 W' w.heap.size (.string (bs nm)) (.int .i64 st) v ∧ (W'.cell? ⟨w.heap.size + 1, 0, none⟩ = some (.string (bs k1)) ∧ W'.cell? ⟨w.heap.size + 1, 1, none⟩ = some (.string (bs k2))) ∧ Blk W' (w.heap.size + 1 + 1) T3 #[.string (bs cp), .int .i64 cy, .int .i64 cz]) := by
  have M1 := Blk.new w T1 #[.string (bs nm), .int .i64 st, v]
  have M3 := (M1.alloc (.cells #[.string (bs k1), .string (bs k2)] T2)).alloc (.cells #[.string (bs cp), .int .i64 cy, .int .i64 cz] T3)
  have K3 := (Blk.new (w.alloc (.cells #[.string (bs nm), .int .i64 st, v] T1)) T2 #[.string (bs k1), .string (bs k2)]).alloc (.cells #[.string (bs cp), .int .i64 cy, .int .i64 cz] T3)
  have R4 := Blk.new ((w.alloc (.cells #[.string (bs nm), .int .i64 st, v] T1)).alloc (.cells #[.string (bs k1), .string (bs k2)] T2)) T3 #[.string (bs cp), .int .i64 cy, .int .i64 cz]
  have B3 : Below w.heap.size w (((w.alloc (.cells #[.string (bs nm), .int .i64 st, v] T1)).alloc (.cells #[.string (bs k1), .string (bs k2)] T2)).alloc (.cells #[.string (bs cp), .int .i64 cy, .int .i64 cz] T3)) := (((Below.refl _ _).alloc (Nat.le_refl _) _).alloc (by simp) _).alloc (by simp; omega) _
  have hsz : (((w.alloc (.cells #[.string (bs nm), .int .i64 st, v] T1)).alloc (.cells #[.string (bs k1), .string (bs k2)] T2)).alloc (.cells #[.string (bs cp), .int .i64 cy, .int .i64 cz] T3)).heap.size = w.heap.size + 1 + 1 + 1 := by simp
  refine ⟨B3, hsz, ?_⟩
  simp only [alloc_size] at K3 R4
  generalize (((w.alloc (.cells #[.string (bs nm), .int .i64 st, v] T1)).alloc (.cells #[.string (bs k1), .string (bs k2)] T2)).alloc (.cells #[.string (bs cp), .int .i64 cy, .int .i64 cz] T3)) = W3 at *
  refine hid fun W' h => ?_
  have K := K3.below h (by omega)
  exact ⟨Box3.of (M3.below h (by omega)), ⟨K.cell 0, K.cell 1⟩, R4.below h (by omega)⟩
theorem headsTo_get (N : Nat) (cs : List (List UInt8)) (k : List UInt8 × List UInt8) (t : List UInt8) (j i : Nat) (h : i < (headsTo N cs k t j).length) : (headsTo N cs k t j)[i] = headTo N cs k t i := by simp [headsTo]
theorem l13Prefix_any (l : List UInt8) (q : Int) (w : World) (hl : l.length ≤ 140737488351232) :
    Calls Try.prog 58 #[.string (bs l), .int .i64 q] w fun e w' => e = .returned (.bool (l.all callB && decide ((l.length : Int) ≤ q))) ∧ w = w' := by
  go_enter Try.func58, Try.ntmps58
  go_wp2_with fail
  go_loop [5] (fun i => ∃ k : Nat, k ≤ l.length ∧ i = .int .i64 k ∧ Hid ((l.take k).all callB = true)) (fun i => l.length - (intOf i).toNat)
  case atStart => exact ⟨0, Nat.zero_le _, rfl, rfl⟩
  case round =>
    obtain ⟨k, hk, rfl, hall⟩ := hrel
    by_cases hlt : k < l.length
    · have hc := hid (isCallL_at l k hlt)
      go_wp2_with (go_at_call 70; refine (l8Call_any _ _).mono ?_; rintro e w' ⟨rfl, rfl⟩)
      · have h1 : (!isCallL (List.take 1 (List.drop k l))) = true := by assumption
        rw [hc.out] at h1
        go_ret
        exact ⟨ret_bool (by simp [all_not callB l k hlt (by simpa using h1)]), rfl⟩
      · have h1 : (!isCallL (List.take 1 (List.drop k l))) = false := by assumption
        rw [hc.out] at h1
        exact ⟨⟨k + 1, by omega, by go_num, hid (by rw [all_succ _ _ _ hlt, hall.out]; simpa using h1)⟩, by simp [intOf]; omega⟩
    · go_wp2
      go_ret
      have hkk : k = l.length := by omega
      subst hkk
      have h2 := hall.out
      rw [List.take_length] at h2
      exact ⟨ret_bool (by first | (simp only [h2, Bool.true_and]; done) | (simp only [h2, Bool.true_and]; first | rfl | exact decide_eq_decide.2 (by omega))), rfl⟩
-- GENERATED
set_option maxHeartbeats 1000000 in
theorem l13Heads_any (N : Nat) (nm t : List UInt8) (ch : List (List UInt8)) (k : List UInt8 × List UInt8) (A : Option Addr) (n c : Nat) (w : World) (lo : 3 ≤ N) (hi : N ≤ 8) (hr : Rd w A n (strV ch)) (hn : n ≤ 1048576) (hcap : n ≤ c) (l1 : 1 ≤ ch.length) (hs : ∀ x ∈ ch, okChange (N : Int) x = true) (hb1 : okChange (N : Int) k.1 = true) (hb2 : okChange (N : Int) k.2 = true) (ht : t.length ≤ 1000) :
    Calls Try.prog 63 #[.agg #[.string (bs nm), .int .i64 N, .slice A n c], .agg #[.string (bs k.1), .string (bs k.2)], .string (bs t)] w (OneSn w (t.length + 1) (headsTo N ch k t t.length)) := by
  have G := fun (w0 : World) (rd : Rd w0 A n (strV ch)) => hid (l9Heads_any N nm t ch k A n c w0 lo hi rd hn hcap l1 hs hb1 hb2 ht)
  have RS := hid hr
  obtain ⟨k1, k2⟩ := k
  dsimp only at *
  clear hr hs hb1 hb2
  go_enter Try.func63, Try.ntmps63
  go_wp2_with fail
  obtain ⟨B2, hsz, HC⟩ := box_mk w nm k1 k2 (N : Int) (.slice A n c)
  have R2 := hid (RS.out.below B2)
  have HB2 := hid B2
  have hw2 := B2.size
  clear hsz HC
  refine (G _ R2.out).out.mono ?_
  rintro e w1 ⟨v1, rfl, o1, b1⟩
  obtain ⟨A1, c1, rfl, _⟩ := own_shape o1
  have O1 := hid o1
  have HB1 := hid (HB2.out.trans (b1.mono hw2))
  clear o1 b1 B2
  go_wp2
  go_ret
  exact ⟨_, rfl, own_mono O1.out hw2, HB1.out⟩
set_option maxHeartbeats 4000000 in
theorem l13Cut_any (N : Nat) (nm p : List UInt8) (ch : List (List UInt8)) (k : List UInt8 × List UInt8) (q : Nat) (A : Option Addr) (n c : Nat) (w : World) (lo : 3 ≤ N) (hi : N ≤ 8) (hr : Rd w A n (strV ch)) (hn : n ≤ 1048576) (hcap : n ≤ c) (l1 : 1 ≤ ch.length) (hs : ∀ x ∈ ch, okChange (N : Int) x = true) (hb1 : okChange (N : Int) k.1 = true) (hb2 : okChange (N : Int) k.2 = true) (hp : p.length ≤ 1000) (hok : LawOk ⟨nm, (N : Int), ch⟩ ([], [])) (hmb : methB ⟨nm, (N : Int), ch⟩ = true) :
    Calls Try.prog 35 #[.agg #[.string (bs nm), .int .i64 N, .slice A n c], .agg #[.string (bs k.1), .string (bs k.2)], .int .i64 q, .string (bs p)] w (ResC w (cutF N ch k q p)) := by
  have G := fun (w0 : World) (rd : Rd w0 A n (strV ch)) => hid (l13Heads_any N nm p ch k A n c w0 lo hi rd hn hcap l1 hs hb1 hb2 hp)
  have GL := fun (w0 : World) (rd : Rd w0 A n (strV ch)) => hid (specIsLeadTrue_law ⟨nm, (N : Int), ch⟩ A n c w0 hok rd hcap)
  rw [show leadTrueR ⟨nm, (N : Int), ch⟩ = (trueB (leadL (roundsL N) ch), true) by unfold leadTrueR; rw [if_pos hmb]; simp] at GL
  have GR := fun (w0 : World) => hid (l1Rounds_any N w0 hi)
  have HRW := hid (fun i => headTo_row lo hi ch k p i)
  have GT := fun (i : Nat) (w0 : World) => hid (l1Turn_any (headTo N ch k p i) w0 (HRW.out i).1)
  have hrw2 := hid (show ∀ i, IsRow (timesL (turnL (headTo N ch k p i)) (headTo N ch k p p.length)) ∧ (timesL (turnL (headTo N ch k p i)) (headTo N ch k p p.length)).length = N from fun i => (⟨times_row (turn_row (HRW.out i).1) (HRW.out p.length).1 (by rw [turn_len, (HRW.out i).2, (HRW.out p.length).2]), by rw [times_len, (HRW.out p.length).2]⟩))
  have GM := fun (i : Nat) (w0 : World) => hid (l1Times_any (turnL (headTo N ch k p i)) (headTo N ch k p p.length) w0 (turn_row (HRW.out i).1) (HRW.out p.length).1 (by rw [turn_len, (HRW.out i).2, (HRW.out p.length).2]))
  have GS := fun (i : Nat) (w0 : World) (rd : Rd w0 A n (strV ch)) => hid (l11Shared_any N nm (timesL (turnL (headTo N ch k p i)) (headTo N ch k p p.length)) ch A n c w0 lo hi rd hn hs (hrw2.out i).1 (hrw2.out i).2)
  have HM := hid (show ∀ i, hitP N ch k p i = decide (0 < (meetL (leadL (roundsL N) ch) (leadL (timesL (turnL (headTo N ch k p i)) (headTo N ch k p p.length)) ch)).length) from fun i => quot_meetN ch ch (hrw2.out i))
  have HG := hid (fun i (h : i < (headsTo N ch k p p.length).length) => headsTo_get N ch k p p.length i h)
  have RS := hid hr
  have HC0 := hid (show cutF N ch k q p = if p = [] then ((([] : List UInt8), (1 : Int), (0 : Int)), !trueB (leadL (roundsL N) ch)) else if p.length = q then ((p, (3 : Int), (0 : Int)), decide (headTo N ch k p p.length ≠ roundsL N)) else match hitIdx (hitP N ch k p) p.length with | some i => ((p, (2 : Int), (i : Int)), true) | none => (([], (0 : Int), (0 : Int)), false) from rfl)
  obtain ⟨k1, k2⟩ := k
  dsimp only at *
  clear hr hs hb1 hb2 hok hmb l1
  have i0 : (0 : Int) ≤ (p.length : Int) := Int.natCast_nonneg _
  have i1 : (p.length : Int) < (p.length : Int) + 1 := by omega
  have i2 : (p.length : Int) ≤ (p.length : Int) + 1 := by omega
  go_enter Try.func35, Try.ntmps35
  go_wp2_with fail
  obtain ⟨B2, hsz, HC⟩ := box_mkC 34 36 38 w nm k1 k2 [] (N : Int) 0 0 (.slice A n c)
  have R2 := hid (RS.out.below B2)
  have HB2 := hid B2
  have hw2 := B2.size
  generalize (((w.alloc (.cells #[.string (bs nm), .int .i64 (N : Int), .slice A n c] 34)).alloc (.cells #[.string (bs k1), .string (bs k2)] 36)).alloc (.cells #[.string (bs []), .int .i64 0, .int .i64 0] 38)) = W2 at *
  clear B2 hsz
  have HHS5 := hid (fun W' (h : Below W2.heap.size W2 W') => (show W'.cell? ⟨w.heap.size, 0, none⟩ = some (.string (bs nm)) ∧ W'.cell? ⟨w.heap.size, 1, none⟩ = some (.int .i64 (N : Int)) ∧ W'.cell? ⟨w.heap.size, 2, none⟩ = some (.slice A n c) ∧ W'.cell? ⟨w.heap.size + 1, 0, none⟩ = some (.string (bs k1)) ∧ W'.cell? ⟨w.heap.size + 1, 1, none⟩ = some (.string (bs k2)) from by
    obtain ⟨⟨a0, a1, a2⟩, ⟨a3, a4⟩, _⟩ := HC.out _ h
    exact ⟨a0, a1, a2, a3, a4⟩))
  have HRB := hid (fun W' h => (HC.out W' h).2.2)
  clear HC
  obtain ⟨n0, n1, n2, p0, p1⟩ := HHS5.out _ (Below.refl _ _)
  refine (G _ R2.out).out.mono ?_
  rintro e w1 ⟨v1, rfl, o1, b1⟩
  obtain ⟨A1, c1, rfl, hc1, _, rd1, _⟩ := own_shape o1
  have E1 := hid b1
  have hs1 := b1.size
  have hc1' := Int.ofNat_le.2 (Nat.le_of_succ_le hc1)
  have AT := hid (fun (i : Nat) (hi : i < p.length + 1) => (show ∃ b o, A1 = some ⟨b, o, none⟩ ∧ w1.cell? ⟨b, o + i, none⟩ = some (.string (bs (headTo N ch (k1, k2) p i))) from by
    obtain ⟨b, o, e, hk, hc⟩ := rd1.str hi
    rw [HG.out i hk] at hc
    exact ⟨b, o, e, hc⟩))
  obtain ⟨b, o, rfl, hl⟩ := AT.out p.length (Nat.lt_succ_self _)
  have AT2 := hid (fun (i : Nat) (hi : i < p.length + 1) => (show w1.cell? ⟨b, o + i, none⟩ = some (.string (bs (headTo N ch (k1, k2) p i))) from by
    obtain ⟨b', o', e, hc⟩ := AT.out i hi
    obtain ⟨rfl, rfl⟩ : b = b' ∧ o = o' := by injection e with e; injection e with e1 e2; exact ⟨e1, e2⟩
    exact hc))
  clear AT b1 o1 rd1 n0 n1 n2 p0 p1
  obtain ⟨n0, n1, n2, p0, p1⟩ := HHS5.out _ E1.out
  obtain ⟨E, hE⟩ : ∃ E, E = headTo N ch (k1, k2) p p.length := ⟨_, rfl⟩
  rw [← hE] at hl GM GS hrw2 HM HC0
  have HE := hid hE
  clear hE
  by_cases hp0 : p = []
  · have HR := hid (HC0.out.trans (if_pos hp0))
    have hpb : (p == []) = true := by simpa using hp0
    clear hp0 HC0
    go_wp2_with fail
    refine (GL _ (R2.out.below E1.out)).out.mono ?_
    rintro e w2 ⟨rfl, b2⟩
    have E2 := hid (E1.out.trans (b2.mono hs1))
    clear b2
    have RX := HRB.out _ E2.out
    have r0 := RX.cell 0
    have r1 := RX.cell 1
    have r2 := RX.cell 2
    have g0 := RX.frozen 0
    have g1 := RX.frozen 1
    have g2 := RX.frozen 2
    simp only [List.getElem?_toArray, List.getElem?_cons_zero, List.getElem?_cons_succ] at r0 r1 r2
    clear RX
    go_wp2
    refine bodyPost_ret (v := .tuple #[.agg #[.string (bs []), .int .i64 1, .int .i64 0], .bool (!trueB (leadL (roundsL N) ch))]) (by simp [results, Try.results35, go_sem, r0, r1, r2]) rfl ?_
    rw [HR.out]
    exact ⟨rfl, cset3_below (HB2.out.trans ((E2.out).mono hw2)) (by omega) _ _ _⟩
  · have hpb : (p == []) = false := by simpa using hp0
    have HC1 := hid (HC0.out.trans (if_neg hp0))
    clear hp0 HC0
    by_cases hq : p.length = q
    · have HR := hid (HC1.out.trans (if_pos hq))
      have hqb : ((p.length : Int) == (q : Int)) = true := by simp; omega
      clear hq HC1
      go_wp2_with fail
      refine (GR _).out.mono ?_
      rintro e w2 ⟨rfl, rfl⟩
      obtain ⟨B, hB⟩ : ∃ B, B = decide (E ≠ roundsL N) := ⟨_, rfl⟩
      rw [← hB] at HR
      have hb1 : (E != roundsL N) = B := by rw [hB, Bool.eq_iff_iff]; simp
      have hb2 : (E == roundsL N) = !B := by rw [← hb1]; simp [bne]
      have HBB := hid hB
      clear hB
      have RX := HRB.out _ E1.out
      have r0 := RX.cell 0
      have r1 := RX.cell 1
      have r2 := RX.cell 2
      have g0 := RX.frozen 0
      have g1 := RX.frozen 1
      have g2 := RX.frozen 2
      simp only [List.getElem?_toArray, List.getElem?_cons_zero, List.getElem?_cons_succ] at r0 r1 r2
      clear RX
      go_wp2
      refine bodyPost_ret (v := .tuple #[.agg #[.string (bs p), .int .i64 3, .int .i64 0], .bool B]) (by simp [results, Try.results35, go_sem, r0, r1, r2]) rfl ?_
      rw [HR.out]
      exact ⟨rfl, cset3_below (HB2.out.trans ((E1.out).mono hw2)) (by omega) _ _ _⟩
    · have HC2 := hid (HC1.out.trans (if_neg hq))
      have hqb : ((p.length : Int) == (q : Int)) = false := by simp; omega
      clear hq HC1
      go_wp2_with fail
      clear hl
      go_loopg [51] p.length (fun gk x wr => ∃ i : Nat, i ≤ p.length ∧ gk = p.length - i ∧ x = .int .i64 i ∧ Hid (hitIdx (hitP N ch (k1, k2) p) i = none) ∧ Below w1.heap.size w1 wr)
      case atStart => exact ⟨0, by omega, by omega, rfl, hid rfl, Below.refl _ _⟩
      case round =>
        obtain ⟨i, hil, rfl, rfl, hno, hb⟩ := hrel
        have HB := hid hb
        have Er := hid (E1.out.trans (hb.mono hs1))
        by_cases hlt : i < p.length
        · have hc := AT2.out i (by omega)
          have hci : wr.cell? ⟨b, o + i, none⟩ = some (.string (bs (headTo N ch (k1, k2) p i))) := (hb.cell (World.block_lt_of_cell? w1 _ hc)).trans hc
          have j0 : (0 : Int) ≤ (i : Int) := by omega
          have j1 : (i : Int) < (p.length : Int) := by omega
          have GTi := GT i
          have GMi := GM i
          have GSi := GS i
          have HMi := hid (HM.out i)
          obtain ⟨H, hH⟩ : ∃ H, H = headTo N ch (k1, k2) p i := ⟨_, rfl⟩
          rw [← hH] at GTi GMi GSi HMi hci
          clear hH hb hc n0 n1 n2 p0 p1
          obtain ⟨n0, n1, n2, p0, p1⟩ := HHS5.out _ Er.out
          go_wp2_with fail
          go_region_held3 (fun w' => w'.cell? ⟨w.heap.size, 0, none⟩ = some (.string (bs nm)) ∧ w'.cell? ⟨w.heap.size, 1, none⟩ = some (.int .i64 (N : Int)) ∧ w'.cell? ⟨w.heap.size, 2, none⟩ = some (.slice A n c) ∧ w'.cell? ⟨w.heap.size + 1, 0, none⟩ = some (.string (bs k1)) ∧ w'.cell? ⟨w.heap.size + 1, 1, none⟩ = some (.string (bs k2)))
            (first | exact HHS5.out _ Er.out | exact HHS5.out _ Er.out.drew | exact HHS5.out _ Fa | exact HHS5.out _ Fb)
            (first | (go_at_call 67; refine (GTi _).out.mono ?_; rintro e wa ⟨rfl, ba⟩; have Fa := Er.out.drew.trans (ba.mono Er.out.size)) | (go_at_call 66; refine (GMi _).out.mono ?_; rintro e w' ⟨rfl, rfl⟩) | (go_at_call 65; refine (GSi _ (R2.out.below Fa)).out.mono ?_; rintro e wb ⟨vb, rfl, ob, bb⟩; obtain ⟨Ab, cb, rfl, _⟩ := own_shape ob; have Fb := Fa.trans (bb.mono Fa.size)))
          have E3 := hid Fb
          have B3 := hid (HB.out.trans (((Below.refl wr.heap.size wr).drew.trans ((ba.trans (bb.mono ba.size)).mono (Nat.le_refl _))).mono HB.out.size))
          clear ba ob bb Fa Fb n0 n1 n2 p0 p1 hci
          generalize (meetL (leadL (roundsL N) ch) (leadL (timesL (turnL H) E) ch)).length = LL at *
          cases hh : hitP N ch (k1, k2) p i
          · have hLL : ¬ 0 < LL := by have := HMi.out; rw [hh] at this; simpa using this
            have hL2 : ¬ (0 : Int) < (LL : Int) := by omega
            have hL3 : LL = 0 := by omega
            have HH2 := hid (hitIdx_no hno.out hh)
            clear hLL hh HMi
            go_wp2
            go_roundg (p.length - (i + 1))
            case measure => omega
            case rel => exact ⟨i + 1, by omega, rfl, by go_num, HH2, B3.out⟩
          · have hLL : 0 < LL := by have := HMi.out; rw [hh] at this; simpa using this
            have hL2 : (0 : Int) < (LL : Int) := by omega
            have HR := hid (show cutF N ch (k1, k2) q p = ((p, 2, (i : Int)), true) by rw [HC2.out, hitIdx_yes hno.out hh p.length hlt])
            clear hLL hh HMi
            have RX := HRB.out _ E3.out
            have r0 := RX.cell 0
            have r1 := RX.cell 1
            have r2 := RX.cell 2
            have g0 := RX.frozen 0
            have g1 := RX.frozen 1
            have g2 := RX.frozen 2
            simp only [List.getElem?_toArray, List.getElem?_cons_zero, List.getElem?_cons_succ] at r0 r1 r2
            clear RX
            go_wp2
            refine bodyPost_ret (v := .tuple #[.agg #[.string (bs p), .int .i64 2, .int .i64 i], .bool true]) (by simp [results, Try.results35, go_sem, r0, r1, r2]) rfl ?_
            rw [HR.out]
            exact ⟨rfl, cset3_below (HB2.out.trans ((E3.out).mono hw2)) (by omega) _ _ _⟩
        · obtain rfl : i = p.length := by omega
          have HR := hid (show cutF N ch (k1, k2) q p = (([], 0, 0), false) by rw [HC2.out, hno.out])
          clear hb
          have RX := HRB.out _ Er.out
          have r0 := RX.cell 0
          have r1 := RX.cell 1
          have r2 := RX.cell 2
          have g0 := RX.frozen 0
          have g1 := RX.frozen 1
          have g2 := RX.frozen 2
          simp only [List.getElem?_toArray, List.getElem?_cons_zero, List.getElem?_cons_succ] at r0 r1 r2
          clear RX
          go_wp2
          refine bodyPost_ret (v := .tuple #[.agg #[.string (bs []), .int .i64 0, .int .i64 0], .bool false]) (by simp [results, Try.results35, go_sem, r0, r1, r2]) rfl ?_
          rw [HR.out]
          exact ⟨rfl, cset3_below (HB2.out.trans ((Er.out).mono hw2)) (by omega) _ _ _⟩
end Go.Proofs.Ytnkpbahapaocbaa

set_option linter.unusedVariables false
set_option linter.unusedSimpArgs false
set_option maxRecDepth 100000
namespace Go.Proofs.Ytnkpbahapaocbaa
open Go.RowKit

theorem cut_eq (a b : List UInt8) (y z y2 z2 : Int) : decide ((a, y, z) = (b, y2, z2)) = ((a == b) && ((y == y2) && (z == z2))) := by
  rw [Bool.eq_iff_iff]; simp
/-- What IsCut answers. -/
def isCutR (m : Meth) (k : List UInt8 × List UInt8) (q : Int) (c : List UInt8 × Int × Int) : Bool × Bool := if (callsB m k && searchB q) = true then (isCutB m.st.toNat m.ch k q.toNat c, true) else (false, false)
set_option maxHeartbeats 4000000 in
theorem l13IsCut_any (N : Nat) (nm cp : List UInt8) (cy cz : Int) (ch : List (List UInt8)) (k : List UInt8 × List UInt8) (q : Nat) (A : Option Addr) (n c : Nat) (w : World) (lo : 3 ≤ N) (hi : N ≤ 8) (hr : Rd w A n (strV ch)) (hn : n ≤ 1048576) (hcap : n ≤ c) (l1 : 1 ≤ ch.length) (hs : ∀ x ∈ ch, okChange (N : Int) x = true) (hb1 : okChange (N : Int) k.1 = true) (hb2 : okChange (N : Int) k.2 = true) (hp : cp.length ≤ 1048576) (hq : q ≤ 6) (hok : LawOk ⟨nm, (N : Int), ch⟩ ([], [])) (hmb : methB ⟨nm, (N : Int), ch⟩ = true) :
    Calls Try.prog 27 #[.agg #[.string (bs nm), .int .i64 N, .slice A n c], .agg #[.string (bs k.1), .string (bs k.2)], .int .i64 q, .agg #[.string (bs cp), .int .i64 cy, .int .i64 cz]] w fun e w' => e = .returned (.bool (isCutB N ch k q (cp, cy, cz))) ∧ Below w.heap.size w w' := by
  have GP := fun (w0 : World) => hid (l13Prefix_any cp (q : Int) w0 (by omega))
  have hd : decide ((cp.length : Int) ≤ (q : Int)) = decide (cp.length ≤ q) := decide_eq_decide.2 (by omega)
  rw [hd] at GP
  have GC := fun (h : cp.length ≤ 1000) (w0 : World) (rd : Rd w0 A n (strV ch)) => hid (l13Cut_any N nm cp ch k q A n c w0 lo hi rd hn hcap l1 hs hb1 hb2 h hok hmb)
  have RS := hid hr
  have HI := hid (show isCutB N ch k q (cp, cy, cz) = ((cp.all callB && decide (cp.length ≤ q)) && ((cutF N ch k q cp).2 && decide ((cutF N ch k q cp).1 = (cp, cy, cz)))) from rfl)
  generalize isCutB N ch k q (cp, cy, cz) = RR at *
  generalize cutF N ch k q cp = R at *
  obtain ⟨⟨rp, ry, rz⟩, rb⟩ := R
  dsimp only at HI
  rw [cut_eq] at HI
  obtain ⟨k1, k2⟩ := k
  dsimp only at *
  clear hr hs hb1 hb2 hok hmb l1 hd
  cases h0 : (cp.all callB && decide (cp.length ≤ q))
  · rw [h0] at GP HI
    have HR := hid (show RR = false by rw [HI.out]; rfl)
    clear h0 HI
    go_enter Try.func27, Try.ntmps27
    go_wp2_with fail
    obtain ⟨B2, hsz, HC⟩ := box_mkC 34 36 38 w nm k1 k2 cp (N : Int) cy cz (.slice A n c)
    have R2 := hid (RS.out.below B2)
    have HB2 := hid B2
    have hw2 := B2.size
    generalize (((w.alloc (.cells #[.string (bs nm), .int .i64 (N : Int), .slice A n c] 34)).alloc (.cells #[.string (bs k1), .string (bs k2)] 36)).alloc (.cells #[.string (bs cp), .int .i64 cy, .int .i64 cz] 38)) = W2 at *
    clear B2 hsz
    have HHS8 := hid (fun W' (h : Below W2.heap.size W2 W') => (show W'.cell? ⟨w.heap.size, 0, none⟩ = some (.string (bs nm)) ∧ W'.cell? ⟨w.heap.size, 1, none⟩ = some (.int .i64 (N : Int)) ∧ W'.cell? ⟨w.heap.size, 2, none⟩ = some (.slice A n c) ∧ W'.cell? ⟨w.heap.size + 1, 0, none⟩ = some (.string (bs k1)) ∧ W'.cell? ⟨w.heap.size + 1, 1, none⟩ = some (.string (bs k2)) ∧ W'.cell? ⟨w.heap.size + 1 + 1, 0, none⟩ = some (.string (bs cp)) ∧ W'.cell? ⟨w.heap.size + 1 + 1, 1, none⟩ = some (.int .i64 cy) ∧ W'.cell? ⟨w.heap.size + 1 + 1, 2, none⟩ = some (.int .i64 cz) from by
      obtain ⟨⟨a0, a1, a2⟩, ⟨a3, a4⟩, X⟩ := HC.out _ h
      exact ⟨a0, a1, a2, a3, a4, X.cell 0, X.cell 1, X.cell 2⟩))
    clear HC
    obtain ⟨n0, n1, n2, p0, p1, d0, d1, d2⟩ := HHS8.out _ (Below.refl _ _)
    refine (GP _).out.mono ?_
    rintro e w' ⟨rfl, rfl⟩
    go_wp2
    go_ret
    exact ⟨ret_bool HR.out.symm, HB2.out⟩
  · rw [h0] at GP HI
    have hlen : cp.length ≤ 1000 := by
      rw [Bool.and_eq_true, decide_eq_true_eq] at h0
      have := h0.2; omega
    have GC := GC hlen
    clear h0
    go_enter Try.func27, Try.ntmps27
    go_wp2_with fail
    obtain ⟨B2, hsz, HC⟩ := box_mkC 34 36 38 w nm k1 k2 cp (N : Int) cy cz (.slice A n c)
    have R2 := hid (RS.out.below B2)
    have HB2 := hid B2
    have hw2 := B2.size
    generalize (((w.alloc (.cells #[.string (bs nm), .int .i64 (N : Int), .slice A n c] 34)).alloc (.cells #[.string (bs k1), .string (bs k2)] 36)).alloc (.cells #[.string (bs cp), .int .i64 cy, .int .i64 cz] 38)) = W2 at *
    clear B2 hsz
    have HHS8 := hid (fun W' (h : Below W2.heap.size W2 W') => (show W'.cell? ⟨w.heap.size, 0, none⟩ = some (.string (bs nm)) ∧ W'.cell? ⟨w.heap.size, 1, none⟩ = some (.int .i64 (N : Int)) ∧ W'.cell? ⟨w.heap.size, 2, none⟩ = some (.slice A n c) ∧ W'.cell? ⟨w.heap.size + 1, 0, none⟩ = some (.string (bs k1)) ∧ W'.cell? ⟨w.heap.size + 1, 1, none⟩ = some (.string (bs k2)) ∧ W'.cell? ⟨w.heap.size + 1 + 1, 0, none⟩ = some (.string (bs cp)) ∧ W'.cell? ⟨w.heap.size + 1 + 1, 1, none⟩ = some (.int .i64 cy) ∧ W'.cell? ⟨w.heap.size + 1 + 1, 2, none⟩ = some (.int .i64 cz) from by
      obtain ⟨⟨a0, a1, a2⟩, ⟨a3, a4⟩, X⟩ := HC.out _ h
      exact ⟨a0, a1, a2, a3, a4, X.cell 0, X.cell 1, X.cell 2⟩))
    clear HC
    obtain ⟨n0, n1, n2, p0, p1, d0, d1, d2⟩ := HHS8.out _ (Below.refl _ _)
    refine (GP _).out.mono ?_
    rintro e w' ⟨rfl, rfl⟩
    go_wp2_with fail
    refine (GC _ R2.out).out.mono ?_
    rintro e w1 ⟨rfl, b1⟩
    have E1 := hid b1
    clear b1
    clear n0 n1 n2 p0 p1 d0 d1 d2
    obtain ⟨n0, n1, n2, p0, p1, d0, d1, d2⟩ := HHS8.out _ E1.out
    obtain ⟨B0, h0⟩ : ∃ b, (rp == cp) = b := ⟨_, rfl⟩
    obtain ⟨B1, h1⟩ : ∃ b, (ry == cy) = b := ⟨_, rfl⟩
    obtain ⟨B2, h2⟩ : ∃ b, (rz == cz) = b := ⟨_, rfl⟩
    have HR := hid (show RR = (rb && (B0 && (B1 && B2))) by rw [HI.out, h0, h1, h2]; rfl)
    clear HI
    dsimp only
    cases rb
    · go_wp2
      go_ret
      exact ⟨ret_bool (by rw [HR.out]; rfl), HB2.out.trans ((E1.out.alloc E1.out.size _).mono hw2)⟩
    · have E2 := hid (E1.out.alloc E1.out.size (.cells #[.string (bs rp), .int .i64 ry, .int .i64 rz] 38))
      obtain ⟨_, _, _, _, _, c0', c1', c2'⟩ := HHS8.out _ E2.out
      cases B0 <;> cases B1 <;> cases B2
      all_goals go_wp2
      all_goals go_ret
      all_goals exact ⟨ret_bool (by rw [HR.out]; rfl), HB2.out.trans ((E1.out.alloc E1.out.size _).mono hw2)⟩
set_option maxHeartbeats 2000000 in
theorem specIsCut_law (m : Meth) (k : List UInt8 × List UInt8) (q : Int) (cc : List UInt8 × Int × Int) (A : Option Addr) (n c : Nat) (w : World) (ok : LawOk m k) (rd : Rd w A n (strV m.ch)) (hcap : n ≤ c) (hcp : cc.1.length ≤ 1048576) :
    Calls Try.prog 9 #[.agg #[.string (bs m.nm), .int .i64 m.st, .slice A n c], .agg #[.string (bs k.1), .string (bs k.2)], .int .i64 q, .agg #[.string (bs cc.1), .int .i64 cc.2.1, .int .i64 cc.2.2]] w fun e w' => e = .returned (.tuple #[.bool (isCutR m k q cc).1, .bool (isCutR m k q cc).2]) ∧ Below w.heap.size w w' := by
  have hn : n ≤ 1048576 := by have h1 := rd.1; have h2 := ok.2.2.1; rw [strV_len] at h1; omega
  have GC0 := fun (w0 : World) (rd : Rd w0 A n (strV m.ch)) => hid (l13Asked_any m k q A n c w0 ok rd)
  have RS := hid rd
  have OK0 : LawOk m ([], []) := ⟨ok.1, ok.2.1, ok.2.2.1, ok.2.2.2.1, by simp, by simp⟩
  clear rd
  obtain ⟨cp, cy, cz⟩ := cc
  dsimp only at hcp ⊢
  cases hg0 : callsB m k && searchB q
  · rw [hg0] at GC0
    have HR := hid (show isCutR m k q (cp, cy, cz) = (false, false) by unfold isCutR; rw [hg0]; rfl)
    obtain ⟨nm, st, ch⟩ := m
    obtain ⟨k1, k2⟩ := k
    dsimp only at *
    clear hg0 ok OK0
    go_enter Try.func9, Try.ntmps9
    go_wp2_with fail
    obtain ⟨B2, hsz, HC⟩ := box_mkC 34 36 38 w nm k1 k2 cp st cy cz (.slice A n c)
    have R2 := hid (RS.out.below B2)
    have HB2 := hid B2
    have hw2 := B2.size
    generalize (((w.alloc (.cells #[.string (bs nm), .int .i64 st, .slice A n c] 34)).alloc (.cells #[.string (bs k1), .string (bs k2)] 36)).alloc (.cells #[.string (bs cp), .int .i64 cy, .int .i64 cz] 38)) = W2 at *
    clear B2 hsz
    have HHS8 := hid (fun W' (h : Below W2.heap.size W2 W') => (show W'.cell? ⟨w.heap.size, 0, none⟩ = some (.string (bs nm)) ∧ W'.cell? ⟨w.heap.size, 1, none⟩ = some (.int .i64 st) ∧ W'.cell? ⟨w.heap.size, 2, none⟩ = some (.slice A n c) ∧ W'.cell? ⟨w.heap.size + 1, 0, none⟩ = some (.string (bs k1)) ∧ W'.cell? ⟨w.heap.size + 1, 1, none⟩ = some (.string (bs k2)) ∧ W'.cell? ⟨w.heap.size + 1 + 1, 0, none⟩ = some (.string (bs cp)) ∧ W'.cell? ⟨w.heap.size + 1 + 1, 1, none⟩ = some (.int .i64 cy) ∧ W'.cell? ⟨w.heap.size + 1 + 1, 2, none⟩ = some (.int .i64 cz) from by
      obtain ⟨⟨a0, a1, a2⟩, ⟨a3, a4⟩, X⟩ := HC.out _ h
      exact ⟨a0, a1, a2, a3, a4, X.cell 0, X.cell 1, X.cell 2⟩))
    clear HC
    obtain ⟨n0, n1, n2, p0, p1, d0, d1, d2⟩ := HHS8.out _ (Below.refl _ _)
    refine (GC0 _ R2.out).out.mono ?_
    rintro e w1 ⟨rfl, b1⟩
    have E1 := hid b1
    clear b1
    clear n0 n1 n2 p0 p1 d0 d1 d2
    obtain ⟨n0, n1, n2, p0, p1, d0, d1, d2⟩ := HHS8.out _ E1.out
    go_wp2
    go_ret2
    rw [HR.out]
    exact ⟨rfl, HB2.out.trans (E1.out.mono hw2)⟩
  · rw [hg0] at GC0
    have HR0 := show isCutR m k q (cp, cy, cz) = (isCutB m.st.toNat m.ch k q.toNat (cp, cy, cz), true) by unfold isCutR; rw [hg0]; rfl
    rw [Bool.and_eq_true] at hg0
    have hb1 := callsB_bob hg0.1
    have hb2 := callsB_single hg0.1
    have hmb := callsB_meth (m := m) (k := k) hg0.1
    obtain ⟨N, hN, lo, hi, l1, l40, hs⟩ := meth_parts hmb
    obtain ⟨j, rfl, hj1, hj6⟩ := searchB_nat hg0.2
    obtain ⟨nm, st, ch⟩ := m
    dsimp only at *
    subst hN
    simp only [Int.toNat_natCast] at HR0
    have HR := hid HR0
    have GI := fun (w0 : World) (rd : Rd w0 A n (strV ch)) => hid (l13IsCut_any N nm cp cy cz ch k j A n c w0 lo hi rd hn hcap l1 hs hb1 hb2 hcp hj6 OK0 hmb)
    clear hg0 hb1 hb2 hmb lo hi l1 l40 hs ok OK0 HR0
    generalize isCutB N ch k j (cp, cy, cz) = RR at *
    obtain ⟨k1, k2⟩ := k
    dsimp only at *
    go_enter Try.func9, Try.ntmps9
    go_wp2_with fail
    obtain ⟨B2, hsz, HC⟩ := box_mkC 34 36 38 w nm k1 k2 cp (N : Int) cy cz (.slice A n c)
    have R2 := hid (RS.out.below B2)
    have HB2 := hid B2
    have hw2 := B2.size
    generalize (((w.alloc (.cells #[.string (bs nm), .int .i64 (N : Int), .slice A n c] 34)).alloc (.cells #[.string (bs k1), .string (bs k2)] 36)).alloc (.cells #[.string (bs cp), .int .i64 cy, .int .i64 cz] 38)) = W2 at *
    clear B2 hsz
    have HHS8 := hid (fun W' (h : Below W2.heap.size W2 W') => (show W'.cell? ⟨w.heap.size, 0, none⟩ = some (.string (bs nm)) ∧ W'.cell? ⟨w.heap.size, 1, none⟩ = some (.int .i64 (N : Int)) ∧ W'.cell? ⟨w.heap.size, 2, none⟩ = some (.slice A n c) ∧ W'.cell? ⟨w.heap.size + 1, 0, none⟩ = some (.string (bs k1)) ∧ W'.cell? ⟨w.heap.size + 1, 1, none⟩ = some (.string (bs k2)) ∧ W'.cell? ⟨w.heap.size + 1 + 1, 0, none⟩ = some (.string (bs cp)) ∧ W'.cell? ⟨w.heap.size + 1 + 1, 1, none⟩ = some (.int .i64 cy) ∧ W'.cell? ⟨w.heap.size + 1 + 1, 2, none⟩ = some (.int .i64 cz) from by
      obtain ⟨⟨a0, a1, a2⟩, ⟨a3, a4⟩, X⟩ := HC.out _ h
      exact ⟨a0, a1, a2, a3, a4, X.cell 0, X.cell 1, X.cell 2⟩))
    clear HC
    obtain ⟨n0, n1, n2, p0, p1, d0, d1, d2⟩ := HHS8.out _ (Below.refl _ _)
    refine (GC0 _ R2.out).out.mono ?_
    rintro e w1 ⟨rfl, b1⟩
    have E1 := hid b1
    clear b1
    clear n0 n1 n2 p0 p1 d0 d1 d2
    obtain ⟨n0, n1, n2, p0, p1, d0, d1, d2⟩ := HHS8.out _ E1.out
    go_wp2_with fail
    refine (GI _ (R2.out.below E1.out)).out.mono ?_
    rintro e w2 ⟨rfl, b2⟩
    have E2 := hid (E1.out.trans (b2.mono E1.out.size))
    clear b2
    go_wp2
    go_ret2
    rw [HR.out]
    exact ⟨rfl, HB2.out.trans (E2.out.mono hw2)⟩
end Go.Proofs.Ytnkpbahapaocbaa

set_option linter.unusedVariables false
set_option linter.unusedSimpArgs false
set_option maxRecDepth 100000
namespace Go.Proofs.Ytnkpbahapaocbaa
open Go.RowKit

/-- The fields of a searcher that a cut asks. -/
def SrchAt (w' : World) (G : Nat) (nm : List UInt8) (N : Nat) (A : Option Addr) (n c : Nat) (k1 k2 : List UInt8) (q : Nat) (tr : Bool) (g : Nat) : Prop := w'.cell? ⟨G, 0, none⟩ = some (.string (bs nm)) ∧ w'.cell? ⟨G, 1, none⟩ = some (.int .i64 (N : Int)) ∧ w'.cell? ⟨G, 2, none⟩ = some (.slice A n c) ∧ w'.cell? ⟨G, 3, none⟩ = some (.string (bs k1)) ∧ w'.cell? ⟨G, 4, none⟩ = some (.string (bs k2)) ∧ w'.cell? ⟨G, 5, none⟩ = some (.int .i64 (q : Int)) ∧ w'.cell? ⟨G, 6, none⟩ = some (.bool tr) ∧ w'.cell? ⟨G, 7, none⟩ = some (.map (some g))
theorem SrchAt.below {w w' : World} {G : Nat} {nm : List UInt8} {N : Nat} {A : Option Addr} {n c : Nat} {k1 k2 : List UInt8} {q : Nat} {tr : Bool} {g : Nat} (h : SrchAt w G nm N A n c k1 k2 q tr g) (hb : Below w.heap.size w w') : SrchAt w' G nm N A n c k1 k2 q tr g := by
  obtain ⟨h0, h1, h2, h3, h4, h5, h6, h7⟩ := h
  have hk := fun {p : Addr} {u : Value} (hc : w.cell? p = some u) => (hb.cell (World.block_lt_of_cell? w _ hc)).trans hc
  exact ⟨hk h0, hk h1, hk h2, hk h3, hk h4, hk h5, hk h6, hk h7⟩
theorem SrchAt.lt {w : World} {G : Nat} {nm : List UInt8} {N : Nat} {A : Option Addr} {n c : Nat} {k1 k2 : List UInt8} {q : Nat} {tr : Bool} {g : Nat} (h : SrchAt w G nm N A n c k1 k2 q tr g) : G < w.heap.size := World.block_lt_of_cell? w _ h.1
theorem cell_set3 {X : World} {p : Addr} {v : Value} {g : Nat} (h : X.cell? p = some v) (hne : p.block ≠ g) (x y z : Value) : (((X.setCell ⟨g, 0, none⟩ x).setCell ⟨g, 1, none⟩ y).setCell ⟨g, 2, none⟩ z).cell? p = some v := by
  rw [World.cell?_setCell_other _ _ _ _ (by intro e; exact hne (by rw [← e])), World.cell?_setCell_other _ _ _ _ (by intro e; exact hne (by rw [← e])), World.cell?_setCell_other _ _ _ _ (by intro e; exact hne (by rw [← e]))]
  exact h
theorem SrchAt.set3 {w : World} {G : Nat} {nm : List UInt8} {N : Nat} {A : Option Addr} {n c : Nat} {k1 k2 : List UInt8} {q : Nat} {tr : Bool} {g b : Nat} (h : SrchAt w G nm N A n c k1 k2 q tr g) (hne : G ≠ b) (x y z : Value) : SrchAt (((w.setCell ⟨b, 0, none⟩ x).setCell ⟨b, 1, none⟩ y).setCell ⟨b, 2, none⟩ z) G nm N A n c k1 k2 q tr g := by
  obtain ⟨h0, h1, h2, h3, h4, h5, h6, h7⟩ := h
  exact ⟨cell_set3 h0 hne _ _ _, cell_set3 h1 hne _ _ _, cell_set3 h2 hne _ _ _, cell_set3 h3 hne _ _ _, cell_set3 h4 hne _ _ _, cell_set3 h5 hne _ _ _, cell_set3 h6 hne _ _ _, cell_set3 h7 hne _ _ _⟩
/-- The cells of a new searcher. -/
def srchC (nm : List UInt8) (N : Nat) (A : Option Addr) (n c : Nat) (k1 k2 : List UInt8) (q : Nat) (tr : Bool) (g : Nat) : Array Value := #[.string (bs nm), .int .i64 (N : Int), .slice A n c, .string (bs k1), .string (bs k2), .int .i64 (q : Int), .bool tr, .map (some g), .int .i64 0, .slice none 0 0, .slice none 0 0, .bool false]
theorem SrchAt.of {w : World} {G : Nat} {t : TypeId} {nm : List UInt8} {N : Nat} {A : Option Addr} {n c : Nat} {k1 k2 : List UInt8} {q : Nat} {tr : Bool} {g : Nat} (h : Blk w G t (srchC nm N A n c k1 k2 q tr g)) : SrchAt w G nm N A n c k1 k2 q tr g := ⟨h.cell 0, h.cell 1, h.cell 2, h.cell 3, h.cell 4, h.cell 5, h.cell 6, h.cell 7⟩
set_option maxHeartbeats 4000000 in
theorem newSearcher_any (N : Nat) (nm : List UInt8) (ch : List (List UInt8)) (k : List UInt8 × List UInt8) (q : Nat) (A : Option Addr) (n c : Nat) (w : World) (lo : 3 ≤ N) (hi : N ≤ 8) (hr : Rd w A n (strV ch)) (hn : n ≤ 1000) (hs : ∀ x ∈ ch, okChange (N : Int) x = true) :
    Calls Try.prog 30 #[.agg #[.string (bs nm), .int .i64 N, .slice A n c], .agg #[.string (bs k.1), .string (bs k.2)], .int .i64 (q : Int)] w fun e w' => ∃ G g z, e = .returned (.pointer (some ⟨G, 0, none⟩)) ∧ Blk w' G 71 (srchC nm N A n c k.1 k.2 q (trueB (leadL (roundsL N) ch)) g) ∧ IsSet w' g z (quotL (leadL (roundsL N) ch) (leadL (roundsL N) ch)) ∧ w.heap.size ≤ G ∧ Below w.heap.size w w' := by
  have GL := fun (w0 : World) (rd : Rd w0 A n (strV ch)) => hid (leadTrue_any N nm ch A n c w0 lo hi rd (by omega) hs)
  have GF := fun (w0 : World) (rd : Rd w0 A n (strV ch)) => hid (falseSet_any N nm nm ch ch A A n c n c w0 lo hi rd rd hn hn hs hs)
  have RS := hid hr
  generalize quotL (leadL (roundsL N) ch) (leadL (roundsL N) ch) = FF at *
  generalize trueB (leadL (roundsL N) ch) = tr at *
  obtain ⟨k1, k2⟩ := k
  dsimp only at *
  clear hr hs
  go_enter Try.func30, Try.ntmps30
  go_wp2_with fail
  obtain ⟨B2, hsz, HC⟩ := box_mk w nm k1 k2 (N : Int) (.slice A n c)
  have R2 := hid (RS.out.below B2)
  have HB2 := hid B2
  have hw2 := B2.size
  generalize ((w.alloc (.cells #[.string (bs nm), .int .i64 (N : Int), .slice A n c] 34)).alloc (.cells #[.string (bs k1), .string (bs k2)] 36)) = W2 at *
  clear B2 hsz
  have HHS5 := hid (fun W' (h : Below W2.heap.size W2 W') => (show W'.cell? ⟨w.heap.size, 0, none⟩ = some (.string (bs nm)) ∧ W'.cell? ⟨w.heap.size, 1, none⟩ = some (.int .i64 (N : Int)) ∧ W'.cell? ⟨w.heap.size, 2, none⟩ = some (.slice A n c) ∧ W'.cell? ⟨w.heap.size + 1, 0, none⟩ = some (.string (bs k1)) ∧ W'.cell? ⟨w.heap.size + 1, 1, none⟩ = some (.string (bs k2)) from by
    obtain ⟨⟨a0, a1, a2⟩, a3, a4⟩ := HC.out _ h
    exact ⟨a0, a1, a2, a3, a4⟩))
  clear HC
  obtain ⟨n0, n1, n2, p0, p1⟩ := HHS5.out _ (Below.refl _ _)
  have F0 : Below W2.heap.size W2 W2.drew := (Below.refl _ _).drew
  go_region_held3 (fun w' => w'.cell? ⟨w.heap.size, 0, none⟩ = some (.string (bs nm)) ∧ w'.cell? ⟨w.heap.size, 1, none⟩ = some (.int .i64 (N : Int)) ∧ w'.cell? ⟨w.heap.size, 2, none⟩ = some (.slice A n c) ∧ w'.cell? ⟨w.heap.size + 1, 0, none⟩ = some (.string (bs k1)) ∧ w'.cell? ⟨w.heap.size + 1, 1, none⟩ = some (.string (bs k2)))
    (first | exact HHS5.out _ (Below.refl _ _) | exact HHS5.out _ F0 | exact HHS5.out _ Fa | exact HHS5.out _ Fb | exact HHS5.out _ (Fb.alloc Fb.size _))
    (first | (go_at_call 60; refine (GL _ (R2.out.below F0)).out.mono ?_; rintro e wa ⟨rfl, ba⟩; have Fa := F0.trans (ba.mono (Nat.le_refl _))) | (go_at_call 61; refine (GF _ (R2.out.below Fa)).out.mono ?_; rintro e wb ⟨g, z, rfl, hz, hset, hge, bb⟩; have Fb := Fa.trans (bb.mono Fa.size)))
  have HFb := hid Fb
  have HSet := hid hset
  clear ba bb hset Fa Fb F0 n0 n1 n2 p0 p1 hz hge
  have hsb := HFb.out.size
  go_wp2
  go_ret
  exact ⟨_, g, z, rfl, Blk.new wb 71 (srchC nm N A n c k1 k2 q tr g), HSet.out.below ((Below.refl _ _).alloc (Nat.le_refl _) _), Nat.le_trans hw2 hsb, HB2.out.trans ((HFb.out.alloc hsb _).mono hw2)⟩
set_option maxHeartbeats 4000000 in
theorem cutOf_any (N : Nat) (nm p : List UInt8) (ch : List (List UInt8)) (k : List UInt8 × List UInt8) (q : Nat) (A : Option Addr) (n c G g z : Nat) (tr : Bool) (w : World) (lo : 3 ≤ N) (hi : N ≤ 8) (hr : Rd w A n (strV ch)) (hn : n ≤ 1048576) (l1 : 1 ≤ ch.length) (hs : ∀ x ∈ ch, okChange (N : Int) x = true) (hb1 : okChange (N : Int) k.1 = true) (hb2 : okChange (N : Int) k.2 = true) (hp : p.length ≤ 1000) (hcall : p.all callB = true) (hsr : SrchAt w G nm N A n c k.1 k.2 q tr g) (htr : tr = trueB (leadL (roundsL N) ch)) (hset : IsSet w g z (quotL (leadL (roundsL N) ch) (leadL (roundsL N) ch))) :
    Calls Try.prog 62 #[.pointer (some ⟨G, 0, none⟩), .string (bs p)] w (ResC w (cutF N ch k q p)) := by
  have GH := fun (w0 : World) (rd : Rd w0 A n (strV ch)) => hid (heads_any N nm p ch k A n c w0 lo hi rd hn l1 hs hb1 hb2 hp hcall)
  have GR := fun (w0 : World) => hid (rounds_any N w0 hi)
  have HRW := hid (fun i => headTo_row lo hi ch k p i)
  have GT := fun (i : Nat) (w0 : World) => hid (turned_any (headTo N ch k p i) w0 (HRW.out i).1)
  have GM := fun (i : Nat) (w0 : World) => hid (times_any (turnL (headTo N ch k p i)) (headTo N ch k p p.length) w0 (turn_row (HRW.out i).1) (HRW.out p.length).1 (by rw [turn_len, (HRW.out i).2, (HRW.out p.length).2]))
  have HZL := hid (show ∀ i, (timesL (turnL (headTo N ch k p i)) (headTo N ch k p p.length)).length ≤ 1048576 from fun i => by rw [times_len, (HRW.out p.length).2]; omega)
  have HM := hid (show ∀ i, hitP N ch k p i = memB (timesL (turnL (headTo N ch k p i)) (headTo N ch k p p.length)) (quotL (leadL (roundsL N) ch) (leadL (roundsL N) ch)) from fun i => rfl)
  have HG := hid (fun i (h : i < (headsTo N ch k p p.length).length) => headsTo_get N ch k p p.length i h)
  have RS := hid hr
  have HC0 := hid (show cutF N ch k q p = if p = [] then ((([] : List UInt8), (1 : Int), (0 : Int)), !trueB (leadL (roundsL N) ch)) else if p.length = q then ((p, (3 : Int), (0 : Int)), decide (headTo N ch k p p.length ≠ roundsL N)) else match hitIdx (hitP N ch k p) p.length with | some i => ((p, (2 : Int), (i : Int)), true) | none => (([], (0 : Int), (0 : Int)), false) from rfl)
  rw [← htr] at HC0
  have HSR := hid hsr
  have HST := hid hset
  have hGw := hsr.lt
  generalize quotL (leadL (roundsL N) ch) (leadL (roundsL N) ch) = FF at *
  obtain ⟨k1, k2⟩ := k
  dsimp only at *
  clear hr hs hb1 hb2 l1 hcall hset htr
  have i0 : (0 : Int) ≤ (p.length : Int) := Int.natCast_nonneg _
  have i1 : (p.length : Int) < (p.length : Int) + 1 := by omega
  have i2 : (p.length : Int) ≤ (p.length : Int) + 1 := by omega
  obtain ⟨s0, s1, s2, s3, s4, s5, s6, s7⟩ := hsr
  go_enter Try.func62, Try.ntmps62
  go_wp2_with fail
  have B2 : Below w.heap.size w (w.alloc (.cells #[.string (bs []), .int .i64 0, .int .i64 0] 38)) := (Below.refl _ _).alloc (Nat.le_refl _) _
  have Z2 := Blk.new w 38 #[.string (bs []), .int .i64 0, .int .i64 0]
  have hsz : (w.alloc (.cells #[.string (bs []), .int .i64 0, .int .i64 0] 38)).heap.size = w.heap.size + 1 := by simp
  generalize (w.alloc (.cells #[.string (bs []), .int .i64 0, .int .i64 0] 38)) = W2 at *
  have HB2 := hid B2
  have hw2 := B2.size
  have R2 := hid (RS.out.below B2)
  have HRB := hid (fun W' (h : Below W2.heap.size W2 W') => Z2.below h (by omega))
  have HHS := hid (fun W' (h : Below W2.heap.size W2 W') => HSR.out.below (HB2.out.trans (h.mono hw2)))
  have HT2 := hid (fun W' (h : Below W2.heap.size W2 W') => HST.out.below (HB2.out.trans (h.mono hw2)))
  have hGne : G ≠ w.heap.size := by omega
  clear B2 Z2 hsz s0 s1 s2 s3 s4 s5 s6 s7
  obtain ⟨s0, s1, s2, s3, s4, s5, s6, s7⟩ := HHS.out _ (Below.refl _ _)
  go_region_held3 (fun w' => w'.cell? ⟨G, 0, none⟩ = some (.string (bs nm)) ∧ w'.cell? ⟨G, 1, none⟩ = some (.int .i64 (N : Int)) ∧ w'.cell? ⟨G, 2, none⟩ = some (.slice A n c) ∧ w'.cell? ⟨G, 3, none⟩ = some (.string (bs k1)) ∧ w'.cell? ⟨G, 4, none⟩ = some (.string (bs k2)) ∧ w'.cell? ⟨G, 5, none⟩ = some (.int .i64 (q : Int)) ∧ w'.cell? ⟨G, 6, none⟩ = some (.bool tr) ∧ w'.cell? ⟨G, 7, none⟩ = some (.map (some g)))
    (first | exact HHS.out _ (Below.refl _ _) | exact HHS.out _ (Below.refl _ _).drew | exact HHS.out _ Fa)
    (first | (go_at_call 88; refine (GH _ (R2.out.below (Below.refl W2.heap.size W2).drew)).out.mono ?_; rintro e w1 ⟨v1, rfl, o1, b1⟩; obtain ⟨A1, c1, rfl, hc1, _, rd1, _⟩ := own_shape o1; have Fa := (Below.refl W2.heap.size W2).drew.trans (b1.mono (Nat.le_refl _))))
  have E1 := hid Fa
  have hs1 := Fa.size
  have hc1' := Int.ofNat_le.2 (Nat.le_of_succ_le hc1)
  have AT := hid (fun (i : Nat) (hi : i < p.length + 1) => (show ∃ b o, A1 = some ⟨b, o, none⟩ ∧ w1.cell? ⟨b, o + i, none⟩ = some (.string (bs (headTo N ch (k1, k2) p i))) from by
    obtain ⟨b, o, e, hk, hc⟩ := rd1.str hi
    rw [HG.out i hk] at hc
    exact ⟨b, o, e, hc⟩))
  obtain ⟨b, o, rfl, hl⟩ := AT.out p.length (Nat.lt_succ_self _)
  have AT2 := hid (fun (i : Nat) (hi : i < p.length + 1) => (show w1.cell? ⟨b, o + i, none⟩ = some (.string (bs (headTo N ch (k1, k2) p i))) from by
    obtain ⟨b', o', e, hc⟩ := AT.out i hi
    obtain ⟨rfl, rfl⟩ : b = b' ∧ o = o' := by injection e with e; injection e with e1 e2; exact ⟨e1, e2⟩
    exact hc))
  clear AT b1 o1 rd1 Fa
  clear s0 s1 s2 s3 s4 s5 s6 s7
  obtain ⟨s0, s1, s2, s3, s4, s5, s6, s7⟩ := HHS.out _ E1.out
  obtain ⟨E, hE⟩ : ∃ E, E = headTo N ch (k1, k2) p p.length := ⟨_, rfl⟩
  rw [← hE] at hl GM HZL HM HC0
  have HE := hid hE
  clear hE
  by_cases hp0 : p = []
  · have HR := hid (HC0.out.trans (if_pos hp0))
    have hpb : (p == []) = true := by simpa using hp0
    clear hp0 HC0
    have RX := HRB.out _ E1.out
    have r0 := RX.cell 0
    have r1 := RX.cell 1
    have r2 := RX.cell 2
    have g0 := RX.frozen 0
    have g1 := RX.frozen 1
    have g2 := RX.frozen 2
    simp only [List.getElem?_toArray, List.getElem?_cons_zero, List.getElem?_cons_succ] at r0 r1 r2
    clear RX
    go_wp2_with fail
    go_region_held3 (fun w' => w'.cell? ⟨G, 0, none⟩ = some (.string (bs nm)) ∧ w'.cell? ⟨G, 1, none⟩ = some (.int .i64 (N : Int)) ∧ w'.cell? ⟨G, 2, none⟩ = some (.slice A n c) ∧ w'.cell? ⟨G, 3, none⟩ = some (.string (bs k1)) ∧ w'.cell? ⟨G, 4, none⟩ = some (.string (bs k2)) ∧ w'.cell? ⟨G, 5, none⟩ = some (.int .i64 (q : Int)) ∧ w'.cell? ⟨G, 6, none⟩ = some (.bool tr) ∧ w'.cell? ⟨G, 7, none⟩ = some (.map (some g)))
      (first | exact HHS.out _ E1.out | exact HHS.out _ E1.out.drew | exact (HHS.out _ E1.out.drew).set3 hGne _ _ _)
      (fail)
    all_goals go_wp2
    all_goals refine bodyPost_ret (v := .tuple #[.agg #[.string (bs []), .int .i64 1, .int .i64 0], .bool (!tr)]) (by simp [results, Try.results62, go_sem, r0, r1, r2]) rfl ?_
    all_goals rw [HR.out]
    all_goals exact ⟨rfl, cset3_below (HB2.out.trans ((E1.out.drew).mono hw2)) (by omega) _ _ _⟩
  · have hpb : (p == []) = false := by simpa using hp0
    have HC1 := hid (HC0.out.trans (if_neg hp0))
    clear hp0 HC0
    by_cases hq : p.length = q
    · have HR := hid (HC1.out.trans (if_pos hq))
      have hqb : ((p.length : Int) == (q : Int)) = true := by simp; omega
      clear hq HC1
      go_wp2_with fail
      refine (GR _).out.mono ?_
      rintro e w2 ⟨rfl, rfl⟩
      obtain ⟨B, hB⟩ : ∃ B, B = decide (E ≠ roundsL N) := ⟨_, rfl⟩
      rw [← hB] at HR
      have hb1 : (E != roundsL N) = B := by rw [hB, Bool.eq_iff_iff]; simp
      have hb2 : (E == roundsL N) = !B := by rw [← hb1]; simp [bne]
      have HBB := hid hB
      clear hB
      have RX := HRB.out _ E1.out
      have r0 := RX.cell 0
      have r1 := RX.cell 1
      have r2 := RX.cell 2
      have g0 := RX.frozen 0
      have g1 := RX.frozen 1
      have g2 := RX.frozen 2
      simp only [List.getElem?_toArray, List.getElem?_cons_zero, List.getElem?_cons_succ] at r0 r1 r2
      clear RX
      go_wp2
      refine bodyPost_ret (v := .tuple #[.agg #[.string (bs p), .int .i64 3, .int .i64 0], .bool B]) (by simp [results, Try.results62, go_sem, r0, r1, r2]) rfl ?_
      rw [HR.out]
      exact ⟨rfl, cset3_below (HB2.out.trans ((E1.out).mono hw2)) (by omega) _ _ _⟩
    · have HC2 := hid (HC1.out.trans (if_neg hq))
      have hqb : ((p.length : Int) == (q : Int)) = false := by simp; omega
      clear hq HC1
      go_wp2_with fail
      clear hl
      go_loopg [57] p.length (fun gk x wr => ∃ i : Nat, i ≤ p.length ∧ gk = p.length - i ∧ x = .int .i64 i ∧ Hid (hitIdx (hitP N ch (k1, k2) p) i = none) ∧ Below w1.heap.size w1 wr)
      case atStart => exact ⟨0, by omega, by omega, rfl, hid rfl, Below.refl _ _⟩
      case round =>
        obtain ⟨i, hil, rfl, rfl, hno, hb⟩ := hrel
        have HB := hid hb
        have Er := hid (E1.out.trans (hb.mono hs1))
        by_cases hlt : i < p.length
        · have hc := AT2.out i (by omega)
          have hci : wr.cell? ⟨b, o + i, none⟩ = some (.string (bs (headTo N ch (k1, k2) p i))) := (hb.cell (World.block_lt_of_cell? w1 _ hc)).trans hc
          have j0 : (0 : Int) ≤ (i : Int) := by omega
          have j1 : (i : Int) < (p.length : Int) := by omega
          have GTi := GT i
          have GMi := GM i
          have HZi := HZL.out i
          have HMi := hid (HM.out i)
          obtain ⟨H, hH⟩ : ∃ H, H = headTo N ch (k1, k2) p i := ⟨_, rfl⟩
          rw [← hH] at GTi GMi HMi hci HZi
          clear hH hb hc
          clear s0 s1 s2 s3 s4 s5 s6 s7
          obtain ⟨s0, s1, s2, s3, s4, s5, s6, s7⟩ := HHS.out _ Er.out
          obtain ⟨Z, hZ⟩ : ∃ Z, Z = timesL (turnL H) E := ⟨_, rfl⟩
          rw [← hZ] at GMi HMi HZi
          clear hZ
          go_wp2_with fail
          go_region_held3 (fun w' => w'.cell? ⟨G, 0, none⟩ = some (.string (bs nm)) ∧ w'.cell? ⟨G, 1, none⟩ = some (.int .i64 (N : Int)) ∧ w'.cell? ⟨G, 2, none⟩ = some (.slice A n c) ∧ w'.cell? ⟨G, 3, none⟩ = some (.string (bs k1)) ∧ w'.cell? ⟨G, 4, none⟩ = some (.string (bs k2)) ∧ w'.cell? ⟨G, 5, none⟩ = some (.int .i64 (q : Int)) ∧ w'.cell? ⟨G, 6, none⟩ = some (.bool tr) ∧ w'.cell? ⟨G, 7, none⟩ = some (.map (some g)))
            (first | exact HHS.out _ Er.out | exact HHS.out _ Er.out.drew | exact HHS.out _ Fa | exact HHS.out _ Fb)
            (first | (go_at_call 87; refine (GTi _).out.mono ?_; rintro e wa ⟨rfl, ba⟩; have Fa := Er.out.drew.trans (ba.mono Er.out.size)) | (go_at_call 86; refine (GMi _).out.mono ?_; rintro e wb ⟨rfl, bb⟩; have Fb := Fa.trans (bb.mono Fa.size); have hlook := (HT2.out _ Fb).look HZi))
          have E3 := hid Fb
          have B3 := hid (HB.out.trans (((Below.refl wr.heap.size wr).drew.trans ((ba.trans (bb.mono ba.size)).mono (Nat.le_refl _))).mono HB.out.size))
          clear ba bb Fa Fb s0 s1 s2 s3 s4 s5 s6 s7 hci hlook
          have hh := HMi.out
          generalize memB Z FF = MB at hh ⊢
          cases MB
          · have HH2 := hid (hitIdx_no hno.out hh)
            clear hh HMi
            go_wp2
            go_roundg (p.length - (i + 1))
            case measure => omega
            case rel => exact ⟨i + 1, by omega, rfl, by go_num, HH2, B3.out⟩
          · have HR := hid (show cutF N ch (k1, k2) q p = ((p, 2, (i : Int)), true) by rw [HC2.out, hitIdx_yes hno.out hh p.length hlt])
            clear hh HMi
            have RX := HRB.out _ E3.out
            have r0 := RX.cell 0
            have r1 := RX.cell 1
            have r2 := RX.cell 2
            have g0 := RX.frozen 0
            have g1 := RX.frozen 1
            have g2 := RX.frozen 2
            simp only [List.getElem?_toArray, List.getElem?_cons_zero, List.getElem?_cons_succ] at r0 r1 r2
            clear RX
            go_wp2
            refine bodyPost_ret (v := .tuple #[.agg #[.string (bs p), .int .i64 2, .int .i64 i], .bool true]) (by simp [results, Try.results62, go_sem, r0, r1, r2]) rfl ?_
            rw [HR.out]
            exact ⟨rfl, cset3_below (HB2.out.trans ((E3.out).mono hw2)) (by omega) _ _ _⟩
        · obtain rfl : i = p.length := by omega
          have HR := hid (show cutF N ch (k1, k2) q p = (([], 0, 0), false) by rw [HC2.out, hno.out])
          clear hb
          have RX := HRB.out _ Er.out
          have r0 := RX.cell 0
          have r1 := RX.cell 1
          have r2 := RX.cell 2
          have g0 := RX.frozen 0
          have g1 := RX.frozen 1
          have g2 := RX.frozen 2
          simp only [List.getElem?_toArray, List.getElem?_cons_zero, List.getElem?_cons_succ] at r0 r1 r2
          clear RX
          go_wp2
          refine bodyPost_ret (v := .tuple #[.agg #[.string (bs []), .int .i64 0, .int .i64 0], .bool false]) (by simp [results, Try.results62, go_sem, r0, r1, r2]) rfl ?_
          rw [HR.out]
          exact ⟨rfl, cset3_below (HB2.out.trans ((Er.out).mono hw2)) (by omega) _ _ _⟩
end Go.Proofs.Ytnkpbahapaocbaa

set_option linter.unusedVariables false
set_option linter.unusedSimpArgs false
namespace Go.Proofs.Ytnkpbahapaocbaa
open Go.RowKit

/-- An operation that its guard passes over is taken first. -/
theorem wpAnyH_pass {P : Program} {ops : Array Oper} {Q : Exit → Act → World → Prop} {md : Region.Mode} {S : World → Prop} {i : Nat} {d : Option Tmp} {fuel : Nat} {listed : Array Bool} {a : Act} {w : World} (hd : (ops[i]?).map (fun o => o.dst) = some d)
    (hs : Region.noSelect ops = true) (hf : Region.free md ops listed i = true) (hr : (Region.ready md ops listed).contains i = true)
    (hQ : ∀ c a v w, Q (.panic c) (a.put d v) w → Q (.panic c) a w) (hw : (ops[i]?).map (fun o => Region.wanted o (yielded ops a.tmps)) = some false) (hS : S w)
    (h : wpAnyH P md ops Q S fuel (listed.setIfInBounds i true) (a.put d undef) w) : wpAnyH P md ops Q S (fuel + 1) listed a w := by
  cases ho : ops[i]? with
  | none => rw [ho] at hd; cases hd
  | some o =>
    rw [ho] at hd hw
    simp only [Option.map_some, Option.some.injEq] at hd hw
    subst hd
    exact wpAnyH_take ho hs hf hr (fun c a w => hQ c a undef w) (Or.inr ⟨hw, rfl⟩) hS h
end Go.Proofs.Ytnkpbahapaocbaa

set_option linter.unusedVariables false
set_option linter.unusedSimpArgs false
set_option maxRecDepth 100000
namespace Go.Proofs.Ytnkpbahapaocbaa
open Go.RowKit

set_option maxHeartbeats 4000000 in
theorem justified_any (N : Nat) (nm cp : List UInt8) (cy cz : Int) (ch : List (List UInt8)) (k : List UInt8 × List UInt8) (q : Nat) (A : Option Addr) (n c G g z : Nat) (tr : Bool) (w : World) (lo : 3 ≤ N) (hi : N ≤ 8) (hr : Rd w A n (strV ch)) (hn : n ≤ 1048576) (l1 : 1 ≤ ch.length) (hs : ∀ x ∈ ch, okChange (N : Int) x = true) (hb1 : okChange (N : Int) k.1 = true) (hb2 : okChange (N : Int) k.2 = true) (hp : cp.length ≤ 1048576) (hq6 : q ≤ 6) (hsr : SrchAt w G nm N A n c k.1 k.2 q tr g) (htr : tr = trueB (leadL (roundsL N) ch)) (hset : IsSet w g z (quotL (leadL (roundsL N) ch) (leadL (roundsL N) ch))) :
    Calls Try.prog 31 #[.pointer (some ⟨G, 0, none⟩), .agg #[.string (bs cp), .int .i64 cy, .int .i64 cz]] w fun e w' => e = .returned (.bool (isCutB N ch k q (cp, cy, cz))) ∧ Below w.heap.size w w' := by
  have GA := fun (w0 : World) => hid (areCalls_any cp w0 (by omega))
  have GC := fun (h : cp.length ≤ 1000) (hc : cp.all callB = true) (w0 : World) (rd : Rd w0 A n (strV ch)) (h1 : SrchAt w0 G nm N A n c k.1 k.2 q tr g) (h2 : IsSet w0 g z (quotL (leadL (roundsL N) ch) (leadL (roundsL N) ch))) => hid (cutOf_any N nm cp ch k q A n c G g z tr w0 lo hi rd hn l1 hs hb1 hb2 h hc h1 htr h2)
  have RS := hid hr
  have HSR := hid hsr
  have HST := hid hset
  have HI := hid (show isCutB N ch k q (cp, cy, cz) = ((cp.all callB && decide (cp.length ≤ q)) && ((cutF N ch k q cp).2 && decide ((cp, cy, cz) = (cutF N ch k q cp).1))) by
    rw [show decide ((cp, cy, cz) = (cutF N ch k q cp).1) = decide ((cutF N ch k q cp).1 = (cp, cy, cz)) from decide_eq_decide.2 ⟨Eq.symm, Eq.symm⟩]; rfl)
  generalize isCutB N ch k q (cp, cy, cz) = RR at *
  generalize cutF N ch k q cp = R at *
  generalize quotL (leadL (roundsL N) ch) (leadL (roundsL N) ch) = FF at *
  obtain ⟨⟨rp, ry, rz⟩, rb⟩ := R
  dsimp only at HI
  rw [cut_eq] at HI
  obtain ⟨k1, k2⟩ := k
  dsimp only at *
  clear hr hs hb1 hb2 l1 hsr hset htr
  have i0 : (0 : Int) ≤ (cp.length : Int) := Int.natCast_nonneg _
  by_cases hlq : cp.length ≤ q
  · have hlq2 : ¬ (q : Int) < (cp.length : Int) := by omega
    have hdec : decide ((q : Int) < (cp.length : Int)) = false := decide_eq_false hlq2
    have hdec2 : decide (q < cp.length) = false := decide_eq_false (by omega)
    have hlen : cp.length ≤ 1000 := by omega
    rw [decide_eq_true hlq, Bool.and_true] at HI
    have GC := GC hlen
    clear hlq
    cases h0 : cp.all callB
    · rw [h0] at GA HI
      have HR := hid (show RR = false by rw [HI.out]; rfl)
      clear h0 HI GC
      go_enter Try.func31, Try.ntmps31
      go_wp2_with fail
      have B2 : Below w.heap.size w (w.alloc (.cells #[.string (bs cp), .int .i64 cy, .int .i64 cz] 38)) := (Below.refl _ _).alloc (Nat.le_refl _) _
      have Z2 := Blk.new w 38 #[.string (bs cp), .int .i64 cy, .int .i64 cz]
      have hsz : (w.alloc (.cells #[.string (bs cp), .int .i64 cy, .int .i64 cz] 38)).heap.size = w.heap.size + 1 := by simp
      generalize (w.alloc (.cells #[.string (bs cp), .int .i64 cy, .int .i64 cz] 38)) = W2 at *
      have HB2 := hid B2
      have hw2 := B2.size
      have R2 := hid (RS.out.below B2)
      have HCB := hid (fun W' (h : Below W2.heap.size W2 W') => Z2.below h (by omega))
      have HHS := hid (fun W' (h : Below W2.heap.size W2 W') => HSR.out.below (HB2.out.trans (h.mono hw2)))
      have HT2 := hid (fun W' (h : Below W2.heap.size W2 W') => HST.out.below (HB2.out.trans (h.mono hw2)))
      have HS2 := hid (fun W' (h : Below W2.heap.size W2 W') => (show W'.cell? ⟨w.heap.size, 0, none⟩ = some (.string (bs cp)) ∧ W'.cell? ⟨G, 5, none⟩ = some (.int .i64 (q : Int)) from ⟨(HCB.out W' h).cell 0, (HHS.out W' h).2.2.2.2.2.1⟩))
      clear B2 Z2 hsz
      obtain ⟨s0, s1⟩ := HS2.out _ (Below.refl _ _)
      go_region_held3 (fun w' => w'.cell? ⟨w.heap.size, 0, none⟩ = some (.string (bs cp)) ∧ w'.cell? ⟨G, 5, none⟩ = some (.int .i64 (q : Int)))
        (first | exact HS2.out _ (Below.refl _ _) | exact HS2.out _ (Below.refl _ _).drew)
        (first | (go_at_call 53; refine (GA _).out.mono ?_; rintro e w' ⟨rfl, rfl⟩))
      go_wp2
      go_ret
      exact ⟨ret_bool HR.out.symm, HB2.out.drew⟩
    · rw [h0] at GA HI
      have GC := GC h0
      clear h0
      go_enter Try.func31, Try.ntmps31
      go_wp2_with fail
      have B2 : Below w.heap.size w (w.alloc (.cells #[.string (bs cp), .int .i64 cy, .int .i64 cz] 38)) := (Below.refl _ _).alloc (Nat.le_refl _) _
      have Z2 := Blk.new w 38 #[.string (bs cp), .int .i64 cy, .int .i64 cz]
      have hsz : (w.alloc (.cells #[.string (bs cp), .int .i64 cy, .int .i64 cz] 38)).heap.size = w.heap.size + 1 := by simp
      generalize (w.alloc (.cells #[.string (bs cp), .int .i64 cy, .int .i64 cz] 38)) = W2 at *
      have HB2 := hid B2
      have hw2 := B2.size
      have R2 := hid (RS.out.below B2)
      have HCB := hid (fun W' (h : Below W2.heap.size W2 W') => Z2.below h (by omega))
      have HHS := hid (fun W' (h : Below W2.heap.size W2 W') => HSR.out.below (HB2.out.trans (h.mono hw2)))
      have HT2 := hid (fun W' (h : Below W2.heap.size W2 W') => HST.out.below (HB2.out.trans (h.mono hw2)))
      have HS2 := hid (fun W' (h : Below W2.heap.size W2 W') => (show W'.cell? ⟨w.heap.size, 0, none⟩ = some (.string (bs cp)) ∧ W'.cell? ⟨G, 5, none⟩ = some (.int .i64 (q : Int)) from ⟨(HCB.out W' h).cell 0, (HHS.out W' h).2.2.2.2.2.1⟩))
      clear B2 Z2 hsz
      obtain ⟨s0, s1⟩ := HS2.out _ (Below.refl _ _)
      go_region_held3 (fun w' => w'.cell? ⟨w.heap.size, 0, none⟩ = some (.string (bs cp)) ∧ w'.cell? ⟨G, 5, none⟩ = some (.int .i64 (q : Int)))
        (first | exact HS2.out _ (Below.refl _ _) | exact HS2.out _ (Below.refl _ _).drew)
        (first | (go_at_call 53; refine (GA _).out.mono ?_; rintro e w' ⟨rfl, rfl⟩))
      go_wp2_with fail
      have F1 : Below W2.heap.size W2 W2.drew := (Below.refl _ _).drew
      refine (GC _ (R2.out.below F1) (HHS.out _ F1) (HT2.out _ F1)).out.mono ?_
      rintro e w1 ⟨rfl, b1⟩
      have E1 := hid (F1.trans (b1.mono (Nat.le_refl _)))
      clear b1 s0 s1 F1
      have E2 := hid (E1.out.alloc E1.out.size (.cells #[.string (bs rp), .int .i64 ry, .int .i64 rz] 38))
      have X1 := HCB.out _ E1.out
      have X2 := HCB.out _ E2.out
      have c0 := X1.cell 0
      have c1 := X1.cell 1
      have c2 := X1.cell 2
      have c0' := X2.cell 0
      have c1' := X2.cell 1
      have c2' := X2.cell 2
      simp only [List.getElem?_toArray, List.getElem?_cons_zero, List.getElem?_cons_succ] at c0 c1 c2 c0' c1' c2'
      clear X1 X2
      obtain ⟨B0, h0⟩ : ∃ b, (cp == rp) = b := ⟨_, rfl⟩
      obtain ⟨B1, h1⟩ : ∃ b, (cy == ry) = b := ⟨_, rfl⟩
      obtain ⟨B2, h2⟩ : ∃ b, (cz == rz) = b := ⟨_, rfl⟩
      have HR := hid (show RR = (rb && (B0 && (B1 && B2))) by rw [HI.out, h0, h1, h2]; rfl)
      clear HI
      dsimp only
      cases rb
      · go_wp2
        go_ret
        exact ⟨ret_bool (by rw [HR.out]; rfl), HB2.out.trans (E2.out.mono hw2)⟩
      · cases B0 <;> cases B1 <;> cases B2
        all_goals go_wp2
        all_goals go_ret
        all_goals exact ⟨ret_bool (by rw [HR.out]; rfl), HB2.out.trans (E2.out.mono hw2)⟩
  · have hlq2 : (q : Int) < (cp.length : Int) := by omega
    have hdec : decide ((q : Int) < (cp.length : Int)) = true := decide_eq_true hlq2
    have hdec2 : decide (q < cp.length) = true := decide_eq_true (by omega)
    have HR := hid (show RR = false by rw [HI.out, decide_eq_false hlq]; simp)
    clear hlq HI GC
    go_enter Try.func31, Try.ntmps31
    go_wp2_with fail
    have B2 : Below w.heap.size w (w.alloc (.cells #[.string (bs cp), .int .i64 cy, .int .i64 cz] 38)) := (Below.refl _ _).alloc (Nat.le_refl _) _
    have Z2 := Blk.new w 38 #[.string (bs cp), .int .i64 cy, .int .i64 cz]
    have hsz : (w.alloc (.cells #[.string (bs cp), .int .i64 cy, .int .i64 cz] 38)).heap.size = w.heap.size + 1 := by simp
    generalize (w.alloc (.cells #[.string (bs cp), .int .i64 cy, .int .i64 cz] 38)) = W2 at *
    have HB2 := hid B2
    have hw2 := B2.size
    have R2 := hid (RS.out.below B2)
    have HCB := hid (fun W' (h : Below W2.heap.size W2 W') => Z2.below h (by omega))
    have HHS := hid (fun W' (h : Below W2.heap.size W2 W') => HSR.out.below (HB2.out.trans (h.mono hw2)))
    have HT2 := hid (fun W' (h : Below W2.heap.size W2 W') => HST.out.below (HB2.out.trans (h.mono hw2)))
    have HS2 := hid (fun W' (h : Below W2.heap.size W2 W') => (show W'.cell? ⟨w.heap.size, 0, none⟩ = some (.string (bs cp)) ∧ W'.cell? ⟨G, 5, none⟩ = some (.int .i64 (q : Int)) from ⟨(HCB.out W' h).cell 0, (HHS.out W' h).2.2.2.2.2.1⟩))
    clear B2 Z2 hsz
    obtain ⟨s0, s1⟩ := HS2.out _ (Below.refl _ _)
    refine wp_region_held_drew (S := fun w' => w'.cell? ⟨w.heap.size, 0, none⟩ = some (.string (bs cp)) ∧ w'.cell? ⟨G, 5, none⟩ = some (.int .i64 (q : Int))) (by kernel_rfl) (HS2.out _ (Below.refl _ _).drew) (fun hHeld => ?_)
    refine wpAnyH_take (i := 0) (v := ?_) rfl (by kernel_rfl) (by kernel_rfl) (by kernel_rfl) (fun _ _ _ h => h) (Or.inl ⟨by rfl, ?_⟩) (by assumption) ?_
    rotate_left
    · (intro w hSw; (try dsimp only at hSw); go_simp; with_reducible rfl)
    try simp only [Act.put, List.setIfInBounds_toArray, List.set_cons_zero, List.set_cons_succ]
    refine wpAnyH_take (i := 1) (v := ?_) rfl (by kernel_rfl) (by kernel_rfl) (by kernel_rfl) (fun _ _ _ h => h) (Or.inl ⟨by rfl, ?_⟩) (by assumption) ?_
    rotate_left
    · (intro w hSw; (try dsimp only at hSw); go_simp; with_reducible rfl)
    try simp only [Act.put, List.setIfInBounds_toArray, List.set_cons_zero, List.set_cons_succ]
    refine wpAnyH_take (i := 2) (v := ?_) rfl (by kernel_rfl) (by kernel_rfl) (by kernel_rfl) (fun _ _ _ h => h) (Or.inl ⟨by rfl, ?_⟩) (by assumption) ?_
    rotate_left
    · (intro w hSw; (try dsimp only at hSw); go_simp; with_reducible rfl)
    try simp only [Act.put, List.setIfInBounds_toArray, List.set_cons_zero, List.set_cons_succ]
    refine wpAnyH_take (i := 3) (v := ?_) rfl (by kernel_rfl) (by kernel_rfl) (by kernel_rfl) (fun _ _ _ h => h) (Or.inl ⟨by rfl, ?_⟩) (by assumption) ?_
    rotate_left
    · (intro w hSw; (try dsimp only at hSw); go_simp; with_reducible rfl)
    try simp only [Act.put, List.setIfInBounds_toArray, List.set_cons_zero, List.set_cons_succ]
    refine wpAnyH_take (i := 4) (v := ?_) rfl (by kernel_rfl) (by kernel_rfl) (by kernel_rfl) (fun _ _ _ h => h) (Or.inl ⟨by rfl, ?_⟩) (by assumption) ?_
    rotate_left
    · (intro w hSw; (try dsimp only at hSw); go_simp; with_reducible rfl)
    try simp only [Act.put, List.setIfInBounds_toArray, List.set_cons_zero, List.set_cons_succ]
    refine wpAnyH_take (i := 5) (v := ?_) rfl (by kernel_rfl) (by kernel_rfl) (by kernel_rfl) (fun _ _ _ h => h) (Or.inl ⟨by rfl, ?_⟩) (by assumption) ?_
    rotate_left
    · (intro w hSw; (try dsimp only at hSw); go_simp; with_reducible rfl)
    try simp only [Act.put, List.setIfInBounds_toArray, List.set_cons_zero, List.set_cons_succ]
    refine wpAnyH_take (i := 6) (v := ?_) rfl (by kernel_rfl) (by kernel_rfl) (by kernel_rfl) (fun _ _ _ h => h) (Or.inl ⟨by rfl, ?_⟩) (by assumption) ?_
    rotate_left
    · (intro w hSw; (try dsimp only at hSw); go_simp; with_reducible rfl)
    try simp only [Act.put, List.setIfInBounds_toArray, List.set_cons_zero, List.set_cons_succ]
    refine wpAnyH_take (i := 7) (v := ?_) rfl (by kernel_rfl) (by kernel_rfl) (by kernel_rfl) (fun _ _ _ h => h) (Or.inl ⟨by rfl, ?_⟩) (by assumption) ?_
    rotate_left
    · (intro w hSw; (try dsimp only at hSw); go_simp; with_reducible rfl)
    try simp only [Act.put, List.setIfInBounds_toArray, List.set_cons_zero, List.set_cons_succ]
    refine wpAnyH_take (i := 8) (v := ?_) rfl (by kernel_rfl) (by kernel_rfl) (by kernel_rfl) (fun _ _ _ h => h) (Or.inl ⟨by rfl, ?_⟩) (by assumption) ?_
    rotate_left
    · (intro w hSw; (try dsimp only at hSw); go_simp; with_reducible rfl)
    try simp only [Act.put, List.setIfInBounds_toArray, List.set_cons_zero, List.set_cons_succ]
    refine wpAnyH_pass (i := 9) (d := some 16) (by kernel_rfl) (by kernel_rfl) (by kernel_rfl) (by kernel_rfl) (fun _ _ _ _ h => h) (by kernel_rfl) (by assumption) ?_
    try simp only [Act.put, List.setIfInBounds_toArray, List.set_cons_zero, List.set_cons_succ]
    refine wpAnyH_pass (i := 10) (d := some 17) (by kernel_rfl) (by kernel_rfl) (by kernel_rfl) (by kernel_rfl) (fun _ _ _ _ h => h) (by kernel_rfl) (by assumption) ?_
    try simp only [Act.put, List.setIfInBounds_toArray, List.set_cons_zero, List.set_cons_succ]
    refine wpAnyH_pass (i := 11) (d := some 18) (by kernel_rfl) (by kernel_rfl) (by kernel_rfl) (by kernel_rfl) (fun _ _ _ _ h => h) (by kernel_rfl) (by assumption) ?_
    try simp only [Act.put, List.setIfInBounds_toArray, List.set_cons_zero, List.set_cons_succ]
    refine wpAnyH_pass (i := 12) (d := some 19) (by kernel_rfl) (by kernel_rfl) (by kernel_rfl) (by kernel_rfl) (fun _ _ _ _ h => h) (by kernel_rfl) (by assumption) ?_
    try simp only [Act.put, List.setIfInBounds_toArray, List.set_cons_zero, List.set_cons_succ]
    refine wpAnyH_ready (rs := [13]) (by kernel_rfl) (by simp) ?_
    refine AllReadyH.cons rfl (fun K hK => ?_) AllReadyH.nil
    go_simp
    refine hK.out _ _ (by assumption) (fun hHx => ?_)
    clear hHx hK K
    try simp only [Act.put, List.setIfInBounds_toArray, List.set_cons_zero, List.set_cons_succ]
    refine wpAnyH_done (by kernel_rfl) ?_ _
    go_wp2
    go_ret
    exact ⟨ret_bool HR.out.symm, HB2.out.drew⟩
set_option maxHeartbeats 2000000 in
theorem implIsCut_law (m : Meth) (k : List UInt8 × List UInt8) (q : Int) (cc : List UInt8 × Int × Int) (A : Option Addr) (n c : Nat) (w : World) (ok : LawOk m k) (rd : Rd w A n (strV m.ch)) (hcap : n ≤ c) (hcp : cc.1.length ≤ 1048576) :
    Calls Try.prog 13 #[.agg #[.string (bs m.nm), .int .i64 m.st, .slice A n c], .agg #[.string (bs k.1), .string (bs k.2)], .int .i64 q, .agg #[.string (bs cc.1), .int .i64 cc.2.1, .int .i64 cc.2.2]] w fun e w' => e = .returned (.tuple #[.bool (isCutR m k q cc).1, .bool (isCutR m k q cc).2]) ∧ Below w.heap.size w w' := by
  have hn : n ≤ 1048576 := by have h1 := rd.1; have h2 := ok.2.2.1; rw [strV_len] at h1; omega
  have GC0 := fun (w0 : World) (rd : Rd w0 A n (strV m.ch)) => hid (goodSearch_any m k q A n c w0 ok rd)
  have RS := hid rd
  have OK0 : LawOk m ([], []) := ⟨ok.1, ok.2.1, ok.2.2.1, ok.2.2.2.1, by simp, by simp⟩
  clear rd
  obtain ⟨cp, cy, cz⟩ := cc
  dsimp only at hcp ⊢
  cases hg0 : callsB m k && searchB q
  · rw [hg0] at GC0
    have HR := hid (show isCutR m k q (cp, cy, cz) = (false, false) by unfold isCutR; rw [hg0]; rfl)
    obtain ⟨nm, st, ch⟩ := m
    obtain ⟨k1, k2⟩ := k
    dsimp only at *
    clear hg0 ok OK0
    go_enter Try.func13, Try.ntmps13
    go_wp2_with fail
    obtain ⟨B2, hsz, HC⟩ := box_mkC 34 36 38 w nm k1 k2 cp st cy cz (.slice A n c)
    have R2 := hid (RS.out.below B2)
    have HB2 := hid B2
    have hw2 := B2.size
    generalize (((w.alloc (.cells #[.string (bs nm), .int .i64 st, .slice A n c] 34)).alloc (.cells #[.string (bs k1), .string (bs k2)] 36)).alloc (.cells #[.string (bs cp), .int .i64 cy, .int .i64 cz] 38)) = W2 at *
    clear B2 hsz
    have HHS8 := hid (fun W' (h : Below W2.heap.size W2 W') => (show W'.cell? ⟨w.heap.size, 0, none⟩ = some (.string (bs nm)) ∧ W'.cell? ⟨w.heap.size, 1, none⟩ = some (.int .i64 st) ∧ W'.cell? ⟨w.heap.size, 2, none⟩ = some (.slice A n c) ∧ W'.cell? ⟨w.heap.size + 1, 0, none⟩ = some (.string (bs k1)) ∧ W'.cell? ⟨w.heap.size + 1, 1, none⟩ = some (.string (bs k2)) ∧ W'.cell? ⟨w.heap.size + 1 + 1, 0, none⟩ = some (.string (bs cp)) ∧ W'.cell? ⟨w.heap.size + 1 + 1, 1, none⟩ = some (.int .i64 cy) ∧ W'.cell? ⟨w.heap.size + 1 + 1, 2, none⟩ = some (.int .i64 cz) from by
      obtain ⟨⟨a0, a1, a2⟩, ⟨a3, a4⟩, X⟩ := HC.out _ h
      exact ⟨a0, a1, a2, a3, a4, X.cell 0, X.cell 1, X.cell 2⟩))
    clear HC
    obtain ⟨n0, n1, n2, p0, p1, d0, d1, d2⟩ := HHS8.out _ (Below.refl _ _)
    refine (GC0 _ R2.out).out.mono ?_
    rintro e w1 ⟨rfl, b1⟩
    have E1 := hid b1
    clear b1
    clear n0 n1 n2 p0 p1 d0 d1 d2
    obtain ⟨n0, n1, n2, p0, p1, d0, d1, d2⟩ := HHS8.out _ E1.out
    go_wp2
    go_ret2
    rw [HR.out]
    exact ⟨rfl, HB2.out.trans (E1.out.mono hw2)⟩
  · rw [hg0] at GC0
    have HR0 := show isCutR m k q (cp, cy, cz) = (isCutB m.st.toNat m.ch k q.toNat (cp, cy, cz), true) by unfold isCutR; rw [hg0]; rfl
    rw [Bool.and_eq_true] at hg0
    have hb1 := callsB_bob hg0.1
    have hb2 := callsB_single hg0.1
    have hmb := callsB_meth (m := m) (k := k) hg0.1
    obtain ⟨N, hN, lo, hi, l1, l40, hs⟩ := meth_parts hmb
    obtain ⟨j, rfl, hj1, hj6⟩ := searchB_nat hg0.2
    obtain ⟨nm, st, ch⟩ := m
    dsimp only at *
    subst hN
    simp only [Int.toNat_natCast] at HR0
    have HR := hid HR0
    have hcn : ch.length = n := by have h1 := RS.out.1; rw [strV_len] at h1; exact h1
    have GN := fun (w0 : World) (rd : Rd w0 A n (strV ch)) => hid (newSearcher_any N nm ch k j A n c w0 lo hi rd (by omega) hs)
    have GJ := fun (G g z : Nat) (w0 : World) (rd : Rd w0 A n (strV ch)) (h1 : SrchAt w0 G nm N A n c k.1 k.2 j (trueB (leadL (roundsL N) ch)) g) (h2 : IsSet w0 g z (quotL (leadL (roundsL N) ch) (leadL (roundsL N) ch))) => hid (justified_any N nm cp cy cz ch k j A n c G g z (trueB (leadL (roundsL N) ch)) w0 lo hi rd hn l1 hs hb1 hb2 hcp hj6 h1 rfl h2)
    clear hg0 hb1 hb2 hmb lo hi l1 l40 hs ok OK0 HR0
    generalize isCutB N ch k j (cp, cy, cz) = RR at *
    obtain ⟨k1, k2⟩ := k
    dsimp only at *
    go_enter Try.func13, Try.ntmps13
    go_wp2_with fail
    obtain ⟨B2, hsz, HC⟩ := box_mkC 34 36 38 w nm k1 k2 cp (N : Int) cy cz (.slice A n c)
    have R2 := hid (RS.out.below B2)
    have HB2 := hid B2
    have hw2 := B2.size
    generalize (((w.alloc (.cells #[.string (bs nm), .int .i64 (N : Int), .slice A n c] 34)).alloc (.cells #[.string (bs k1), .string (bs k2)] 36)).alloc (.cells #[.string (bs cp), .int .i64 cy, .int .i64 cz] 38)) = W2 at *
    clear B2 hsz
    have HHS8 := hid (fun W' (h : Below W2.heap.size W2 W') => (show W'.cell? ⟨w.heap.size, 0, none⟩ = some (.string (bs nm)) ∧ W'.cell? ⟨w.heap.size, 1, none⟩ = some (.int .i64 (N : Int)) ∧ W'.cell? ⟨w.heap.size, 2, none⟩ = some (.slice A n c) ∧ W'.cell? ⟨w.heap.size + 1, 0, none⟩ = some (.string (bs k1)) ∧ W'.cell? ⟨w.heap.size + 1, 1, none⟩ = some (.string (bs k2)) ∧ W'.cell? ⟨w.heap.size + 1 + 1, 0, none⟩ = some (.string (bs cp)) ∧ W'.cell? ⟨w.heap.size + 1 + 1, 1, none⟩ = some (.int .i64 cy) ∧ W'.cell? ⟨w.heap.size + 1 + 1, 2, none⟩ = some (.int .i64 cz) from by
      obtain ⟨⟨a0, a1, a2⟩, ⟨a3, a4⟩, X⟩ := HC.out _ h
      exact ⟨a0, a1, a2, a3, a4, X.cell 0, X.cell 1, X.cell 2⟩))
    clear HC
    obtain ⟨n0, n1, n2, p0, p1, d0, d1, d2⟩ := HHS8.out _ (Below.refl _ _)
    refine (GC0 _ R2.out).out.mono ?_
    rintro e w1 ⟨rfl, b1⟩
    have E1 := hid b1
    clear b1
    clear n0 n1 n2 p0 p1 d0 d1 d2
    obtain ⟨n0, n1, n2, p0, p1, d0, d1, d2⟩ := HHS8.out _ E1.out
    go_wp2_with fail
    go_region_held3 (fun w' => w'.cell? ⟨w.heap.size, 0, none⟩ = some (.string (bs nm)) ∧ w'.cell? ⟨w.heap.size, 1, none⟩ = some (.int .i64 (N : Int)) ∧ w'.cell? ⟨w.heap.size, 2, none⟩ = some (.slice A n c) ∧ w'.cell? ⟨w.heap.size + 1, 0, none⟩ = some (.string (bs k1)) ∧ w'.cell? ⟨w.heap.size + 1, 1, none⟩ = some (.string (bs k2)) ∧ w'.cell? ⟨w.heap.size + 1 + 1, 0, none⟩ = some (.string (bs cp)) ∧ w'.cell? ⟨w.heap.size + 1 + 1, 1, none⟩ = some (.int .i64 cy) ∧ w'.cell? ⟨w.heap.size + 1 + 1, 2, none⟩ = some (.int .i64 cz))
      (first | exact HHS8.out _ E1.out | exact HHS8.out _ E1.out.drew | exact HHS8.out _ Fa | exact HHS8.out _ Fb)
      (first | (go_at_call 30; refine (GN _ (R2.out.below E1.out.drew)).out.mono ?_; rintro e wa ⟨G, g, z, rfl, hG, hz, _, ba⟩; have Fa := E1.out.drew.trans (ba.mono E1.out.size)) | (go_at_call 31; refine (GJ _ _ _ _ (R2.out.below Fa) (SrchAt.of hG) hz).out.mono ?_; rintro e wb ⟨rfl, bb⟩; have Fb := Fa.trans (bb.mono Fa.size)))
    have E2 := hid Fb
    clear ba bb Fa Fb hG hz n0 n1 n2 p0 p1 d0 d1 d2
    go_wp2
    go_ret2
    rw [HR.out]
    exact ⟨rfl, HB2.out.trans (E2.out.mono hw2)⟩
end Go.Proofs.Ytnkpbahapaocbaa
