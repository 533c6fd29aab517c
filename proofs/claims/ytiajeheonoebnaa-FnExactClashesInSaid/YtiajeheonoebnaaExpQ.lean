/- Contracts of ClashesIn, in the reference and in the program. No conditions beyond those stated. -/
import Derived.Test.YtiajeheonoebnaaClashQ
import Derived.Test.YtiajeheonoebnaaRowL
import Derived.Test.YtiajeheonoebnaaSkip
import Derived.Test.YtiajeheonoebnaaLeadT
set_option linter.unusedVariables false
set_option linter.unusedSimpArgs false
set_option maxRecDepth 100000
namespace Go.Proofs.Ytiajeheonoebnaa
open Go.RowKit

/-- A slice of pairs and a bool come back; the slice and the pairs are the call's own. -/
def ResP (w : World) (R : List (Nat × Nat) × Bool) (e : Ending) (w' : World) : Prop := ∃ v, e = .returned (.tuple #[v, .bool R.2]) ∧ PairsO w' w.heap.size v R.1 ∧ Below w.heap.size w w'
theorem ResP.none (w w' : World) (h : Below w.heap.size w w') : ResP w ([], false) (.returned (.tuple #[.slice none 0 0, .bool false])) w' := ⟨_, rfl, PairsO.nil (World.ownsRow_nil _ _ _ _), h⟩
/-- Which heads are asked of. -/
def clashB (m : Meth) (l : List (List UInt8)) : Bool := methB m && (rowsB l && (decide (1 ≤ l.length) && decide (l.length ≤ 100) && decide (((l.headD []).length : Int) = m.st)))
/-- What ClashesIn answers. -/
def clashesR (m : Meth) (l : List (List UInt8)) : List (Nat × Nat) × Bool := if clashB m l = true then (clashTo (quotL (leadL (roundsL m.st.toNat) m.ch) (leadL (roundsL m.st.toNat) m.ch)) l l.length, true) else ([], false)
theorem clashesR_no {m : Meth} {l : List (List UInt8)} (h : clashB m l = false) : clashesR m l = ([], false) := by unfold clashesR; rw [h]; rfl
theorem clashesR_le (m : Meth) (l : List (List UInt8)) : (clashesR m l).1.length ≤ 10000 := by
  unfold clashesR
  split
  · rename_i h
    simp only [clashB, Bool.and_eq_true, decide_eq_true_eq] at h
    have h1 := clashTo_len (quotL (leadL (roundsL m.st.toNat) m.ch) (leadL (roundsL m.st.toNat) m.ch)) l l.length
    have h2 : l.length * l.length ≤ 100 * 100 := Nat.mul_le_mul h.2.2.1.2 h.2.2.1.2
    show (clashTo _ _ _).length ≤ 10000
    omega
  · simp
theorem areRowsOf_any (n : Int) (A : Option Addr) (m c : Nat) (l : List (List UInt8)) (w : World) (hr : Rd w A m (strV l)) (hn : l.length ≤ 1048576) (hs : ∀ s ∈ l, s.length ≤ 1048576) :
    Calls Try.prog 70 #[.int .i64 n, .slice A m c] w fun e w' => e = .returned (.bool (rowsB l && (decide (l.length = 0) || decide (((l.headD []).length : Int) = n)))) ∧ w = w' := by
  have hl : l.length = m := by have := hr.1; rw [strV_len] at this; exact this
  have HG := hid (goodRows_any A m c l w hr (by omega) hs)
  cases hb : rowsB l
  · rw [hb] at HG
    clear hr hs hb
    go_enter Try.func70, Try.ntmps70
    go_wp2_with fail
    refine HG.out.mono ?_
    rintro e w' ⟨rfl, rfl⟩
    go_wp2
    go_ret
    exact ⟨ret_bool (by simp), rfl⟩
  · rw [hb] at HG
    by_cases h0 : 0 < m
    · obtain ⟨b, o, rfl, hj0, hc0⟩ := hr.str h0
      rw [headD_at' l hj0] at hc0
      have hc2 : w.cell? ⟨b, o, none⟩ = some (.string (bs (l.headD []))) := hc0
      obtain ⟨X, hX⟩ : ∃ X, X = l.headD [] := ⟨_, rfl⟩
      rw [← hX] at hc2 ⊢
      have HL := hid (show decide (l.length = 0) = false from decide_eq_false (by omega))
      have i0 : (0 : Int) < (m : Int) := by omega
      have i1 : ((m : Int) == 0) = false := by simp; omega
      clear hr hs hb hc0 hX hj0 hl
      go_enter Try.func70, Try.ntmps70
      go_wp2_with fail
      refine HG.out.mono ?_
      rintro e w' ⟨rfl, rfl⟩
      go_wp2
      go_ret
      exact ⟨ret_bool (by rw [HL.out, Bool.true_and, Bool.false_or]; first | rfl | (rw [Bool.eq_iff_iff]; simp)), rfl⟩
    · obtain rfl : m = 0 := by omega
      have HL := hid (show decide (l.length = 0) = true from decide_eq_true hl)
      clear hr hs hb hl
      go_enter Try.func70, Try.ntmps70
      go_wp2_with fail
      refine HG.out.mono ?_
      rintro e w' ⟨rfl, rfl⟩
      go_wp2
      go_ret
      exact ⟨ret_bool (by rw [HL.out]; rfl), rfl⟩
set_option maxHeartbeats 2000000 in
theorem implClashesIn_law (m : Meth) (l : List (List UInt8)) (A B : Option Addr) (n c d e0 : Nat) (w : World) (ok : LawOk m ([], [])) (rd : Rd w A n (strV m.ch)) (hcap : n ≤ c) (rh : Rd w B d (strV l)) (hd : l.length ≤ 1048576) (hs : ∀ s ∈ l, s.length ≤ 1048576) :
    Calls Try.prog 27 #[.agg #[.string (bs m.nm), .int .i64 m.st, .slice A n c], .slice B d e0] w (ResP w (clashesR m l)) := by
  have hn : n ≤ 1048576 := by have h1 := rd.1; have h2 := ok.2.2.1; rw [strV_len] at h1; omega
  have hld : l.length = d := by have h1 := rh.1; rw [strV_len] at h1; exact h1
  have GM := fun (w0 : World) (rd : Rd w0 A n (strV m.ch)) => hid (goodMethod_any m A n c w0 ok.1 ok.2.1 rd hn ok.2.2.2.1)
  have GR := fun (w0 : World) (rh : Rd w0 B d (strV l)) => hid (goodRows_any B d e0 l w0 rh (by omega) hs)
  have GA := fun (st : Int) (w0 : World) (rh : Rd w0 B d (strV l)) => hid (areRowsOf_any st B d e0 l w0 rh hd hs)
  have RS := hid rd
  have RH := hid rh
  have HOK := hid ok
  have HD := hid hld
  cases h0 : methB m
  · rw [h0] at GM
    have HR := hid (clashesR_no (m := m) (l := l) (by unfold clashB; rw [h0]; rfl))
    obtain ⟨nm, st, ch⟩ := m
    dsimp only at *
    clear rd rh ok hs h0 HOK hld
    go_enter Try.func27, Try.ntmps27
    go_wp2_with fail
    obtain ⟨B2, hsz, HC⟩ := box_mk1 28 w nm st (.slice A n c)
    have R2 := hid (RS.out.below B2)
    have RH2 := hid (RH.out.below B2)
    have HB2 := hid B2
    have hw2 := B2.size
    generalize (w.alloc (.cells #[.string (bs nm), .int .i64 st, .slice A n c] 28)) = W2 at *
    clear B2 hsz
    have HS3 : ∀ W', Below W2.heap.size W2 W' → W'.cell? ⟨w.heap.size, 0, none⟩ = some (.string (bs nm)) ∧ W'.cell? ⟨w.heap.size, 1, none⟩ = some (.int .i64 st) ∧ W'.cell? ⟨w.heap.size, 2, none⟩ = some (.slice A n c) := fun W' h => by
      obtain ⟨a0, a1, a2⟩ := HC.out _ h
      exact ⟨a0, a1, a2⟩
    have HHS := hid HS3
    clear HS3 HC
    have E0 : Hid (Below W2.heap.size W2 W2) := hid (Below.refl _ _)
    obtain ⟨n0, n1, n2⟩ := HHS.out _ E0.out
    refine (GM _ (R2.out.below E0.out)).out.mono ?_
    rintro e w1 ⟨rfl, b1⟩
    have E1 := hid (E0.out.trans (b1.mono E0.out.size))
    clear b1 n0 n1 n2
    obtain ⟨n0, n1, n2⟩ := HHS.out _ E1.out
    go_wp2
    go_ret2
    rw [HR.out]
    exact ResP.none _ _ (HB2.out.trans (E1.out.mono hw2))
  · rw [h0] at GM
    by_cases hlen : 1 ≤ d ∧ d ≤ 100
    · obtain ⟨hl1, hl2⟩ := hlen
      have i1 : ¬ (d : Int) < 1 := by omega
      have i2 : ¬ (100 : Int) < (d : Int) := by omega
      have GA2 := GA m.st
      have hCB : clashB m l = (rowsB l && decide (((l.headD []).length : Int) = m.st)) := by
        unfold clashB; rw [h0, hld, decide_eq_true hl1, decide_eq_true hl2]; simp
      have hAR : (rowsB l && (decide (l.length = 0) || decide (((l.headD []).length : Int) = m.st))) = clashB m l := by
        rw [hCB, hld, decide_eq_false (show ¬ d = 0 by omega), Bool.false_or]
      rw [hAR] at GA2
      cases hB : clashB m l
      · rw [hB] at GA2
        have HR := hid (clashesR_no hB)
        obtain ⟨nm, st, ch⟩ := m
        dsimp only at *
        clear rd rh ok hs h0 HOK hCB hAR hB hld GA
        go_enter Try.func27, Try.ntmps27
        go_wp2_with fail
        obtain ⟨B2, hsz, HC⟩ := box_mk1 28 w nm st (.slice A n c)
        have R2 := hid (RS.out.below B2)
        have RH2 := hid (RH.out.below B2)
        have HB2 := hid B2
        have hw2 := B2.size
        generalize (w.alloc (.cells #[.string (bs nm), .int .i64 st, .slice A n c] 28)) = W2 at *
        clear B2 hsz
        have HS3 : ∀ W', Below W2.heap.size W2 W' → W'.cell? ⟨w.heap.size, 0, none⟩ = some (.string (bs nm)) ∧ W'.cell? ⟨w.heap.size, 1, none⟩ = some (.int .i64 st) ∧ W'.cell? ⟨w.heap.size, 2, none⟩ = some (.slice A n c) := fun W' h => by
          obtain ⟨a0, a1, a2⟩ := HC.out _ h
          exact ⟨a0, a1, a2⟩
        have HHS := hid HS3
        clear HS3 HC
        have E0 : Hid (Below W2.heap.size W2 W2) := hid (Below.refl _ _)
        obtain ⟨n0, n1, n2⟩ := HHS.out _ E0.out
        refine (GM _ (R2.out.below E0.out)).out.mono ?_
        rintro e w1 ⟨rfl, b1⟩
        have E1 := hid (E0.out.trans (b1.mono E0.out.size))
        clear b1 n0 n1 n2
        obtain ⟨n0, n1, n2⟩ := HHS.out _ E1.out
        go_wp2_with fail
        refine (GA2 _ (RH2.out.below E1.out)).out.mono ?_
        rintro e w' ⟨rfl, rfl⟩
        go_wp2
        go_ret2
        rw [HR.out]
        exact ResP.none _ _ (HB2.out.trans (E1.out.mono hw2))
      · rw [hB] at GA2
        have HR0 := show clashesR m l = (clashTo (quotL (leadL (roundsL m.st.toNat) m.ch) (leadL (roundsL m.st.toNat) m.ch)) l l.length, true) by unfold clashesR; rw [if_pos hB]
        rw [hCB, Bool.and_eq_true, decide_eq_true_eq] at hB
        obtain ⟨hrows, hst⟩ := hB
        obtain ⟨N, hN, lo, hi, l1, l40, hsm⟩ := meth_parts h0
        have hrl : ∀ x ∈ l, IsRow x ∧ x.length = N := fun x hx => by
          obtain ⟨i, hi', rfl⟩ := List.mem_iff_getElem.1 hx
          have := rowsB_row hrows hi'
          exact ⟨this.1, by omega⟩
        have hcn : m.ch.length = n := by have h1 := rd.1; rw [strV_len] at h1; exact h1
        obtain ⟨nm, st, ch⟩ := m
        dsimp only at *
        subst hN
        have HR := hid HR0
        have GC := fun (w0 : World) (rd : Rd w0 A n (strV ch)) (rh : Rd w0 B d (strV l)) => hid (clashesP_any N nm ch l A B n c d e0 w0 lo hi rd rh (by omega) (by omega) hsm hrl)
        rw [hld] at HR
        simp only [Int.toNat_natCast] at HR
        clear rd rh ok hs h0 HOK hCB hAR hrows hst hld GA HR0 hrl hsm
        go_enter Try.func27, Try.ntmps27
        go_wp2_with fail
        obtain ⟨B2, hsz, HC⟩ := box_mk1 28 w nm (N : Int) (.slice A n c)
        have R2 := hid (RS.out.below B2)
        have RH2 := hid (RH.out.below B2)
        have HB2 := hid B2
        have hw2 := B2.size
        generalize (w.alloc (.cells #[.string (bs nm), .int .i64 (N : Int), .slice A n c] 28)) = W2 at *
        clear B2 hsz
        have HS3 : ∀ W', Below W2.heap.size W2 W' → W'.cell? ⟨w.heap.size, 0, none⟩ = some (.string (bs nm)) ∧ W'.cell? ⟨w.heap.size, 1, none⟩ = some (.int .i64 (N : Int)) ∧ W'.cell? ⟨w.heap.size, 2, none⟩ = some (.slice A n c) := fun W' h => by
          obtain ⟨a0, a1, a2⟩ := HC.out _ h
          exact ⟨a0, a1, a2⟩
        have HHS := hid HS3
        clear HS3 HC
        have E0 : Hid (Below W2.heap.size W2 W2) := hid (Below.refl _ _)
        obtain ⟨n0, n1, n2⟩ := HHS.out _ E0.out
        refine (GM _ (R2.out.below E0.out)).out.mono ?_
        rintro e w1 ⟨rfl, b1⟩
        have E1 := hid (E0.out.trans (b1.mono E0.out.size))
        clear b1 n0 n1 n2
        obtain ⟨n0, n1, n2⟩ := HHS.out _ E1.out
        go_wp2_with fail
        refine (GA2 _ (RH2.out.below E1.out)).out.mono ?_
        rintro e w' ⟨rfl, rfl⟩
        go_wp2_with fail
        refine (GC _ (R2.out.below E1.out) (RH2.out.below E1.out)).out.mono ?_
        rintro e w2 ⟨v2, rfl, o2, b2⟩
        have E2 := hid (E1.out.trans (b2.mono E1.out.size))
        have O2 := hid o2
        have hs1 := E1.out.size
        clear b2 o2 n0 n1 n2
        go_wp2
        go_ret2
        rw [HR.out]
        exact ⟨_, rfl, O2.out.mono (Nat.le_trans hw2 hs1), HB2.out.trans (E2.out.mono hw2)⟩
    · have HR := hid (clashesR_no (m := m) (l := l) (by unfold clashB; rw [hld]; simp; omega))
      obtain ⟨nm, st, ch⟩ := m
      dsimp only at *
      clear rd rh ok hs h0 HOK hld GA
      by_cases hl1 : 1 ≤ d
      · have i1 : ¬ (d : Int) < 1 := by omega
        have i2 : (100 : Int) < (d : Int) := by omega
        clear hlen
        go_enter Try.func27, Try.ntmps27
        go_wp2_with fail
        obtain ⟨B2, hsz, HC⟩ := box_mk1 28 w nm st (.slice A n c)
        have R2 := hid (RS.out.below B2)
        have RH2 := hid (RH.out.below B2)
        have HB2 := hid B2
        have hw2 := B2.size
        generalize (w.alloc (.cells #[.string (bs nm), .int .i64 st, .slice A n c] 28)) = W2 at *
        clear B2 hsz
        have HS3 : ∀ W', Below W2.heap.size W2 W' → W'.cell? ⟨w.heap.size, 0, none⟩ = some (.string (bs nm)) ∧ W'.cell? ⟨w.heap.size, 1, none⟩ = some (.int .i64 st) ∧ W'.cell? ⟨w.heap.size, 2, none⟩ = some (.slice A n c) := fun W' h => by
          obtain ⟨a0, a1, a2⟩ := HC.out _ h
          exact ⟨a0, a1, a2⟩
        have HHS := hid HS3
        clear HS3 HC
        have E0 : Hid (Below W2.heap.size W2 W2) := hid (Below.refl _ _)
        obtain ⟨n0, n1, n2⟩ := HHS.out _ E0.out
        refine (GM _ (R2.out.below E0.out)).out.mono ?_
        rintro e w1 ⟨rfl, b1⟩
        have E1 := hid (E0.out.trans (b1.mono E0.out.size))
        clear b1 n0 n1 n2
        obtain ⟨n0, n1, n2⟩ := HHS.out _ E1.out
        go_wp2
        go_ret2
        rw [HR.out]
        exact ResP.none _ _ (HB2.out.trans (E1.out.mono hw2))
      · have i1 : (d : Int) < 1 := by omega
        clear hlen
        go_enter Try.func27, Try.ntmps27
        go_wp2_with fail
        obtain ⟨B2, hsz, HC⟩ := box_mk1 28 w nm st (.slice A n c)
        have R2 := hid (RS.out.below B2)
        have RH2 := hid (RH.out.below B2)
        have HB2 := hid B2
        have hw2 := B2.size
        generalize (w.alloc (.cells #[.string (bs nm), .int .i64 st, .slice A n c] 28)) = W2 at *
        clear B2 hsz
        have HS3 : ∀ W', Below W2.heap.size W2 W' → W'.cell? ⟨w.heap.size, 0, none⟩ = some (.string (bs nm)) ∧ W'.cell? ⟨w.heap.size, 1, none⟩ = some (.int .i64 st) ∧ W'.cell? ⟨w.heap.size, 2, none⟩ = some (.slice A n c) := fun W' h => by
          obtain ⟨a0, a1, a2⟩ := HC.out _ h
          exact ⟨a0, a1, a2⟩
        have HHS := hid HS3
        clear HS3 HC
        have E0 : Hid (Below W2.heap.size W2 W2) := hid (Below.refl _ _)
        obtain ⟨n0, n1, n2⟩ := HHS.out _ E0.out
        refine (GM _ (R2.out.below E0.out)).out.mono ?_
        rintro e w1 ⟨rfl, b1⟩
        have E1 := hid (E0.out.trans (b1.mono E0.out.size))
        clear b1 n0 n1 n2
        obtain ⟨n0, n1, n2⟩ := HHS.out _ E1.out
        go_wp2
        go_ret2
        rw [HR.out]
        exact ResP.none _ _ (HB2.out.trans (E1.out.mono hw2))
end Go.Proofs.Ytiajeheonoebnaa
