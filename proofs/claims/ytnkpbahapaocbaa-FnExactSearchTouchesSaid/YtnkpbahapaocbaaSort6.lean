/- Contracts of the reference's copy and merge sort of strings. No conditions beyond those stated. -/
import Derived.Test.YtnkpbahapaocbaaApp
import Derived.Test.YtnkpbahapaocbaaSortP
set_option linter.unusedVariables false
set_option linter.unusedSimpArgs false
set_option maxRecDepth 100000
namespace Go.Proofs.Ytnkpbahapaocbaa
open Go.RowKit

theorem l1OwnS_any (A : Option Addr) (n c : Nat) (l : List (List UInt8)) (w : World) (hr : Rd w A n (strV l)) (hn : n ≤ 100000000) :
    Calls Try.prog 34 #[.slice A n c] w (OneS w l) := by
  have hl := hid (show l.length = n by have := hr.1; rw [strV_len] at this; exact this)
  go_enter Try.func34, Try.ntmps34
  go_wp2_with (at_builtin; refine app_str _ (by rfl) _ _ (by rfl) w.heap.size _ 0 [] (by rfl) (own_of_blk (Blk.new w 9 #[]) (Nat.le_refl _) (by simp [maxLen])) A n c l (by rfl) (hr.alloc _) (by omega) (by simp) ?_; intro v5 w5 o5 g5)
  go_ret
  rw [Nat.zero_add, ← hl.out, List.nil_append] at o5
  exact ⟨_, rfl, o5, ((Below.refl _ _).alloc (Nat.le_refl _) _).grown g5 (by simp) fun q hq => by simp [Value.ownBlock] at hq; omega⟩


set_option maxHeartbeats 2000000 in
theorem l6Sort_any (n : Nat) : ∀ (A : Option Addr) (c : Nat) (l : List (List UInt8)) (w : World), Rd w A n (strV l) → n ≤ 100000000 →
    Calls Try.prog 92 #[.slice A n c] w (OneS w (sortL l)) := by
  induction n using Nat.strongRecOn with
  | ind n ih =>
    intro A c l w hr hn
    have hl := hid (show l.length = n by have := hr.1; rw [strV_len] at this; exact this)
    have IH := hid ih
    clear ih
    go_enter Try.func92, Try.ntmps92
    go_wp2_with fail
    refine (l1OwnS_any A n c l w hr hn).mono ?_
    rintro e w1 ⟨v1, rfl, o1, b1⟩
    rw [hl.out] at o1
    obtain ⟨A1, c1, rfl, hnc, hcm, rd1, fr1⟩ := own_shape o1
    have O1 := hid o1
    have B1 := hid b1
    have B1s := b1.size
    clear o1 b1 hr
    by_cases h2 : n < 2
    · have h2i : ((n : Int) < 2) := by omega
      go_wp2
      go_ret
      rw [sortL_small l (by rw [hl.out]; exact h2)]
      exact ⟨_, rfl, by rw [hl.out]; exact O1.out, B1.out⟩
    · have h2i : ¬ ((n : Int) < 2) := by omega
      obtain ⟨b, o, rfl, hcc⟩ := rd1.2 (by omega)
      have R1 := hid rd1
      clear rd1 hcc fr1
      have hlt : n / 2 < n := by omega
      have hc0 : ¬ c1 = 0 := by omega
      have hch : ¬ c1 = n / 2 := by omega
      have hw2 := IntWalk.i64_in ((n : Int) / 2) (by omega)
      have q0 : (0 : Int) ≤ (n : Int) / 2 := by omega
      have q1 : (n : Int) / 2 ≤ (c1 : Int) := by omega
      have q2 : (n : Int) / 2 ≤ (n : Int) := by omega
      have hh : ((n : Int) / 2).toNat = n / 2 := by omega
      have R2 := hid (R1.out.below (Below.refl _ _).drew)
      have ArmA := hid (show ∀ w v, v = .slice (some ⟨b, o, none⟩) ((n : Int) / 2).toNat c1 → Rd w (some ⟨b, o, none⟩) n (strV l) → Calls Try.prog 92 #[v] w (OneS w (sortL (l.take (n / 2)))) by
        rw [hh]
        rintro w v rfl h
        exact IH.out (n / 2) hlt (some ⟨b, o, none⟩) c1 (l.take (n / 2)) w (by rw [strV_take]; exact h.take_ _ (by omega)) (by omega))
      have ArmB := hid (show ∀ w v, v = .slice (some ⟨b, o + ((n : Int) / 2).toNat, none⟩) (n - ((n : Int) / 2).toNat) (c1 - ((n : Int) / 2).toNat) → Rd w (some ⟨b, o, none⟩) n (strV l) → Calls Try.prog 92 #[v] w (OneS w (sortL (l.drop (n / 2)))) by
        rw [hh]
        rintro w v rfl h
        exact IH.out (n - n / 2) (by omega) (some ⟨b, o + n / 2, none⟩) (c1 - n / 2) (l.drop (n / 2)) w (by rw [strV_drop]; exact h.drop_ _ (by omega)) (by omega))
      have hch2 : ¬ c1 = ((n : Int) / 2).toNat := by rw [hh]; exact hch
      have HH := hid hh
      have hsp := hid (sortL_split l (n / 2))
      have hla := hid (sortL_len (l.take (n / 2)))
      have hlb := hid (sortL_len (l.drop (n / 2)))
      clear hlt hh hch
      go_wp2
      go_region_held3 (fun _ => True) (trivial) (first
        | (go_at_call 92; refine (ArmA.out _ _ (by with_reducible rfl) (by first | exact R2.out | exact R2.out.below bB)).mono ?_; rintro e wA ⟨vA, rfl, oA, bA⟩)
        | (go_at_call 92; refine (ArmB.out _ _ (by with_reducible rfl) (by first | exact R2.out | exact R2.out.below bA)).mono ?_; rintro e wB ⟨vB, rfl, oB, bB⟩))
      obtain ⟨LA, hLA⟩ : ∃ L, L = sortL (l.take (n / 2)) := ⟨_, rfl⟩
      obtain ⟨LB, hLB⟩ : ∃ L, L = sortL (l.drop (n / 2)) := ⟨_, rfl⟩
      have hn2 : LA.length + LB.length = n := by
        rw [hLA, hLB, sortL_len, sortL_len, List.length_take, List.length_drop, hl.out]; omega
      rw [← hLA] at oA hsp
      rw [← hLB] at oB hsp
      clear hLA hLB hla hlb ArmA ArmB hch2 HH q0 q1 q2 hw2
      have oA2 := own_below oA bB
      obtain ⟨Aa, ca, rfl, hca, _, rdA, frA⟩ := own_shape oA2
      obtain ⟨Ab, cb, rfl, hcb, _, rdB, frB⟩ := own_shape oB
      have BB := hid (show Below w.heap.size w wB from B1.out.trans (((Below.refl _ _).drew.trans bA).mono B1s |>.trans (bB.mono (by have := bA.size; simp at this ⊢; omega))))
      have RA := hid rdA
      have RB := hid rdB
      clear frA frB oA oA2 oB rdA rdB O1 R1 R2 bA bB
      go_wp2
      go_loopg [4, 5, 6] n (fun gk u v z wr => ∃ (ra rb d : List (List UInt8)) (A B : Option Addr) (p q : Nat), gk = ra.length + rb.length ∧ d.length + ra.length + rb.length = n ∧ u = .slice A ra.length p ∧ v = .slice B rb.length q ∧ wr.ownsRow wB.heap.size 9 1 z d.length (strV d) ∧ Hid (sortL l = d ++ List.merge ra rb leS) ∧ ra.length ≤ p ∧ rb.length ≤ q ∧ Rd wB A ra.length (strV ra) ∧ Rd wB B rb.length (strV rb) ∧ Below wB.heap.size wB wr)
      case atStart => exact ⟨LA, LB, [], Aa, Ab, ca, cb, by omega, by simp; omega, rfl, rfl, World.ownsRow_nil _ _ _ _, hsp, hca, hcb, RA.out, RB.out, Below.refl _ _⟩
      case round =>
        obtain ⟨ra, rb, d, Ar, Br, p, q, rfl, hsum, rfl, rfl, od, hm, hp, hq, ra', rb', bl⟩ := hrel
        have OD := hid od
        have BL := hid bl
        have BLs := bl.size
        clear od bl RA RB
        have AA := hid ra'
        have AB := hid rb'
        have Hsum := hid hsum
        have hdl : d.length ≤ 100000000 := by omega
        have hral : ra.length ≤ 100000000 := by omega
        have hrbl : rb.length ≤ 100000000 := by omega
        clear ra' rb' hsum hn2
        rcases ra with _ | ⟨x, ra⟩
        · have hm0 := hid (show sortL l = d ++ [] ++ rb by rw [hm.out]; simp)
          simp only [List.length_nil, Nat.add_zero] at AA
          go_wp2_with (first
            | (at_builtin; refine app_str _ (by rfl) _ _ (by rfl) wB.heap.size _ _ _ (by rfl) OD.out Ar 0 p [] (by rfl) (AA.out.below BL.out) (by omega) (by omega) ?_; intro v5 w5 o5 g5)
            | (at_builtin; refine app_str _ (by rfl) _ _ (by rfl) wB.heap.size _ _ _ (by rfl) o5 Br rb.length q rb (by rfl) (AB.out.below (BL.out.grown g5 BLs fun q hq => (OD.out.lt q hq).1)) (by omega) (by have := g5.size; omega) ?_; intro v6 w6 o6 g6))
          go_ret
          have B6 : Below wB.heap.size wB w6 := (BL.out.grown g5 BLs fun q hq => (OD.out.lt q hq).1).grown g6 (by have := g5.size; omega) fun q hq => (o5.lt q hq).1
          have BBs := BB.out.size
          refine ⟨_, rfl, ?_, BB.out.trans (B6.mono BBs)⟩
          rw [hm0.out]
          have o7 := own_mono o6 BBs
          have e8 : (d ++ [] ++ rb).length = d.length + 0 + rb.length := by simp
          rw [e8]
          exact o7
        · rcases rb with _ | ⟨y, rb⟩
          · have hm0 := hid (show sortL l = d ++ (x :: ra) ++ [] by rw [hm.out]; simp)
            simp only [List.length_nil, List.length_cons, Nat.add_zero] at AA AB hral
            go_wp2_with (first
              | (at_builtin; refine app_str _ (by rfl) _ _ (by rfl) wB.heap.size _ _ _ (by rfl) OD.out Ar (ra.length + 1) p (x :: ra) (by rfl) (AA.out.below BL.out) (by omega) (by omega) ?_; intro v5 w5 o5 g5)
              | (at_builtin; refine app_str _ (by rfl) _ _ (by rfl) wB.heap.size _ _ _ (by rfl) o5 Br 0 q [] (by rfl) (AB.out.below (BL.out.grown g5 BLs fun q hq => (OD.out.lt q hq).1)) (by omega) (by have := g5.size; omega) ?_; intro v6 w6 o6 g6))
            go_ret
            have B6 : Below wB.heap.size wB w6 := (BL.out.grown g5 BLs fun q hq => (OD.out.lt q hq).1).grown g6 (by have := g5.size; omega) fun q hq => (o5.lt q hq).1
            have BBs := BB.out.size
            refine ⟨_, rfl, ?_, BB.out.trans (B6.mono BBs)⟩
            rw [hm0.out]
            have o7 := own_mono o6 BBs
            have e8 : (d ++ (x :: ra) ++ []).length = d.length + (ra.length + 1) + 0 := by simp
            rw [e8]
            exact o7
          · have hcm := hid (List.cons_merge_cons leS x y ra rb)
            obtain ⟨ba, oa, rfl, ha⟩ := AA.out.2 (by simp)
            obtain ⟨bb, ob, rfl, hb⟩ := AB.out.2 (by simp)
            have ca0 : wr.cell? ⟨ba, oa, none⟩ = some (.string (bs x)) := by
              have := ha 0 _ rfl
              exact (BL.out.cell (World.block_lt_of_cell? _ _ this)).trans this
            have cb0 : wr.cell? ⟨bb, ob, none⟩ = some (.string (bs y)) := by
              have := hb 0 _ rfl
              exact (BL.out.cell (World.block_lt_of_cell? _ _ this)).trans this
            clear ha hb
            simp only [List.length_cons] at hp hq AA AB hral hrbl
            have i0 : (0 : Int) < (ra.length : Int) + 1 := by omega
            have i1 : (0 : Int) < (rb.length : Int) + 1 := by omega
            have hsm := hid (show sortL l = d ++ (if leS x y = true then x :: List.merge ra (y :: rb) leS else y :: List.merge (x :: ra) rb leS) by rw [← hcm.out]; exact hm.out)
            cases hy : Op.bytesLess y x
            · have hle := hid (leS_of_less hy)
              by_cases hp1 : p = 1
              · subst hp1
                obtain rfl : ra = [] := List.eq_nil_of_length_eq_zero (by omega)
                go_wp2
                go_quiet (fail)
                go_wp2_with (at_builtin; refine app_str _ (by rfl) _ _ (by rfl) wB.heap.size _ _ _ (by rfl) ((own_drewN OD.out _).alloc _) (some ⟨wr.heap.size, 0, none⟩) 1 1 [x] (by rfl) (Rd.blk _ [.string (bs x)] _) (by omega) (by simp; omega) ?_; intro v5 w5 o5 g5)
                go_roundg (0 + (rb.length + 1))
                case measure => (first | omega | (simp; done) | (simp; omega))
                case rel => exact ⟨[], y :: rb, d ++ [x], some ⟨ba, oa, none⟩, some ⟨bb, ob, none⟩, 0, q, by simp, by have := Hsum.out; simp at this ⊢; omega, rfl, rfl, by rw [List.length_append]; exact o5, hid (by rw [hsm.out, if_pos hle.out, List.append_assoc]; rfl), by (first | omega | (simp; done) | (simp; omega)), by (first | omega | (simp; done) | (simp; omega)), Rd.nil _ _, AB.out, ((below_drewN BL.out _).alloc BLs _).grown g5 (by (first | omega | (simp; done) | (simp; omega))) fun q hq => (OD.out.lt q hq).1⟩
              · go_wp2
                go_quiet (fail)
                go_wp2_with (at_builtin; refine app_str _ (by rfl) _ _ (by rfl) wB.heap.size _ _ _ (by rfl) ((own_drewN OD.out _).alloc _) (some ⟨wr.heap.size, 0, none⟩) 1 1 [x] (by rfl) (Rd.blk _ [.string (bs x)] _) (by omega) (by simp; omega) ?_; intro v5 w5 o5 g5)
                go_roundg (ra.length + (rb.length + 1))
                case measure => (first | omega | (simp; done) | (simp; omega))
                case rel => exact ⟨ra, y :: rb, d ++ [x], some ⟨ba, oa + 1, none⟩, some ⟨bb, ob, none⟩, p - 1, q, by simp, by have := Hsum.out; simp at this ⊢; omega, rfl, rfl, by rw [List.length_append]; exact o5, hid (by rw [hsm.out, if_pos hle.out, List.append_assoc]; rfl), by (first | omega | (simp; done) | (simp; omega)), by (first | omega | (simp; done) | (simp; omega)), AA.out.drop_ 1 (by omega), AB.out, ((below_drewN BL.out _).alloc BLs _).grown g5 (by (first | omega | (simp; done) | (simp; omega))) fun q hq => (OD.out.lt q hq).1⟩
            · have hle := hid (not_leS hy)
              by_cases hq1 : q = 1
              · subst hq1
                obtain rfl : rb = [] := List.eq_nil_of_length_eq_zero (by omega)
                go_wp2
                go_quiet (fail)
                go_wp2_with (at_builtin; refine app_str _ (by rfl) _ _ (by rfl) wB.heap.size _ _ _ (by rfl) ((own_drewN OD.out _).alloc _) (some ⟨wr.heap.size, 0, none⟩) 1 1 [y] (by rfl) (Rd.blk _ [.string (bs y)] _) (by omega) (by simp; omega) ?_; intro v5 w5 o5 g5)
                go_roundg (ra.length + 1 + 0)
                case measure => (first | omega | (simp; done) | (simp; omega))
                case rel => exact ⟨x :: ra, [], d ++ [y], some ⟨ba, oa, none⟩, some ⟨bb, ob, none⟩, p, 0, by simp, by have := Hsum.out; simp at this ⊢; omega, rfl, rfl, by rw [List.length_append]; exact o5, hid (by rw [hsm.out, if_neg (by rw [hle.out]; decide), List.append_assoc]; rfl), by (first | omega | (simp; done) | (simp; omega)), by (first | omega | (simp; done) | (simp; omega)), AA.out, Rd.nil _ _, ((below_drewN BL.out _).alloc BLs _).grown g5 (by (first | omega | (simp; done) | (simp; omega))) fun q hq => (OD.out.lt q hq).1⟩
              · go_wp2
                go_quiet (fail)
                go_wp2_with (at_builtin; refine app_str _ (by rfl) _ _ (by rfl) wB.heap.size _ _ _ (by rfl) ((own_drewN OD.out _).alloc _) (some ⟨wr.heap.size, 0, none⟩) 1 1 [y] (by rfl) (Rd.blk _ [.string (bs y)] _) (by omega) (by simp; omega) ?_; intro v5 w5 o5 g5)
                go_roundg (ra.length + 1 + rb.length)
                case measure => (first | omega | (simp; done) | (simp; omega))
                case rel => exact ⟨x :: ra, rb, d ++ [y], some ⟨ba, oa, none⟩, some ⟨bb, ob + 1, none⟩, p, q - 1, by simp, by have := Hsum.out; simp at this ⊢; omega, rfl, rfl, by rw [List.length_append]; exact o5, hid (by rw [hsm.out, if_neg (by rw [hle.out]; decide), List.append_assoc]; rfl), by (first | omega | (simp; done) | (simp; omega)), by (first | omega | (simp; done) | (simp; omega)), AA.out, AB.out.drop_ 1 (by omega), ((below_drewN BL.out _).alloc BLs _).grown g5 (by (first | omega | (simp; done) | (simp; omega))) fun q hq => (OD.out.lt q hq).1⟩
end Go.Proofs.Ytnkpbahapaocbaa
