/- Contracts of CalledLead, in the reference and in the program. No conditions beyond those stated. -/
import Derived.Test.YtdmipllbifofmaaExpC
import Derived.Test.YtdmipllbifofmaaApp
set_option linter.unusedVariables false
set_option linter.unusedSimpArgs false
set_option maxRecDepth 100000
namespace Go.Proofs.Ytdmipllbifofmaa
open Go.RowKit

theorem l1OwnSx_any (A : Option Addr) (n c : Nat) (l : List (List UInt8)) (w : World) (hr : Rd w A n (strV l)) (hn : n ≤ 100000000) :
    Calls Try.prog 97 #[.slice A n c] w (OneS w l) := by
  have hl := hid (show l.length = n by have := hr.1; rw [strV_len] at this; exact this)
  go_enter Try.func97, Try.ntmps97
  go_wp2_with (at_builtin; refine app_str _ (by rfl) _ _ (by rfl) w.heap.size _ 0 [] (by rfl) (own_of_blk (Blk.new w 9 #[]) (Nat.le_refl _) (by simp [maxLen])) A n c l (by rfl) (hr.alloc _) (by omega) (by simp) ?_; intro v5 w5 o5 g5)
  go_ret
  rw [Nat.zero_add, ← hl.out, List.nil_append] at o5
  exact ⟨_, rfl, o5, ((Below.refl _ _).alloc (Nat.le_refl _) _).grown g5 (by simp) fun q hq => by simp [Value.ownBlock] at hq; omega⟩
/-- What CalledLead answers. -/
def calledR (m : Meth) (k : List UInt8 × List UInt8) (call : List UInt8) : Meth × Bool := if (callsB m k && isCallL call) = true then (⟨m.nm, m.st, calledL m.ch k call⟩, true) else (⟨[], 0, []⟩, false)
theorem calledR_no {m : Meth} {k : List UInt8 × List UInt8} {call : List UInt8} (h : (callsB m k && isCallL call) = false) : calledR m k call = (⟨[], 0, []⟩, false) := by unfold calledR; rw [h]; rfl
/-- A method and a bool come back; the method's changes are the call's own. -/
def ResM (w : World) (R : Meth × Bool) (e : Ending) (w' : World) : Prop := ∃ v2, e = .returned (.tuple #[.agg #[.string (bs R.1.nm), .int .i64 R.1.st, v2], .bool R.2]) ∧ w'.ownsRow w.heap.size 9 1 v2 R.1.ch.length (strV R.1.ch) ∧ Below w.heap.size w w'
theorem ResM.none (w w' : World) (h : Below w.heap.size w w') : ResM w (⟨[], 0, []⟩, false) (.returned (.tuple #[.agg #[.string (bs []), .int .i64 0, .slice none 0 0], .bool false])) w' := ⟨_, rfl, World.ownsRow_nil _ _ _ _, h⟩
theorem set3_below {w w1 : World} {b g : Nat} (h : Below b w w1) (hg : b ≤ g) (x y z : Value) : Below b w (((w1.setCell ⟨g, 0, none⟩ x).setCell ⟨g, 1, none⟩ y).setCell ⟨g, 2, none⟩ z) :=
  ((h.setCell (p := ⟨g, 0, none⟩) hg _).setCell (p := ⟨g, 1, none⟩) hg _).setCell (p := ⟨g, 2, none⟩) hg _
theorem set3_own {w1 : World} {b g n : Nat} {v : Value} {xs : List Value} (h : w1.ownsRow b 9 1 v n xs) (hg : g < b) (x y z : Value) : (((w1.setCell ⟨g, 0, none⟩ x).setCell ⟨g, 1, none⟩ y).setCell ⟨g, 2, none⟩ z).ownsRow b 9 1 v n xs :=
  own_set (own_set (own_set h hg) hg) hg
theorem box3_set_ne {X : World} {g : Nat} {a b c : Value} {p : Addr} {u : Value} (h : Box3 X g a b c) (hne : g ≠ p.block) : Box3 (X.setCell p u) g a b c := by
  refine ⟨?_, ?_, ?_⟩ <;> rw [World.cell?_setCell_other _ _ _ _ (by intro e; rw [e] at hne; exact hne rfl)]
  · exact h.1
  · exact h.2.1
  · exact h.2.2
/-- The boxes of a method, of its calls, and of the method that comes back. -/
theorem box_mkR (w : World) (nm k1 k2 : List UInt8) (st : Int) (v : Value) :
    Below w.heap.size w (((w.alloc (.cells #[.string (bs nm), .int .i64 st, v] 30)).alloc (.cells #[.string (bs k1), .string (bs k2)] 32)).alloc (.cells #[.string (bs []), .int .i64 0, .slice none 0 0] 30)) ∧
    (((w.alloc (.cells #[.string (bs nm), .int .i64 st, v] 30)).alloc (.cells #[.string (bs k1), .string (bs k2)] 32)).alloc (.cells #[.string (bs []), .int .i64 0, .slice none 0 0] 30)).heap.size = w.heap.size + 1 + 1 + 1 ∧
    Hid (∀ W', Below (((w.alloc (.cells #[.string (bs nm), .int .i64 st, v] 30)).alloc (.cells #[.string (bs k1), .string (bs k2)] 32)).alloc (.cells #[.string (bs []), .int .i64 0, .slice none 0 0] 30)).heap.size (((w.alloc (.cells #[.string (bs nm), .int .i64 st, v] 30)).alloc (.cells #[.string (bs k1), .string (bs k2)] 32)).alloc (.cells #[.string (bs []), .int .i64 0, .slice none 0 0] 30)) W' →
      (Box3 W' w.heap.size (.string (bs nm)) (.int .i64 st) v ∧ W'.cell? ⟨w.heap.size + 1, 0, none⟩ = some (.string (bs k1)) ∧ W'.cell? ⟨w.heap.size + 1, 1, none⟩ = some (.string (bs k2))) ∧ Blk W' (w.heap.size + 1 + 1) 30 #[.string (bs []), .int .i64 0, .slice none 0 0]) := by
  have M1 := Blk.new w 30 #[.string (bs nm), .int .i64 st, v]
  have M2 := M1.alloc (.cells #[.string (bs k1), .string (bs k2)] 32)
  have M3 := M2.alloc (.cells #[.string (bs []), .int .i64 0, .slice none 0 0] 30)
  have K2 := Blk.new (w.alloc (.cells #[.string (bs nm), .int .i64 st, v] 30)) 32 #[.string (bs k1), .string (bs k2)]
  have K3 := K2.alloc (.cells #[.string (bs []), .int .i64 0, .slice none 0 0] 30)
  have R4 := Blk.new ((w.alloc (.cells #[.string (bs nm), .int .i64 st, v] 30)).alloc (.cells #[.string (bs k1), .string (bs k2)] 32)) 30 #[.string (bs []), .int .i64 0, .slice none 0 0]
  have B3 : Below w.heap.size w (((w.alloc (.cells #[.string (bs nm), .int .i64 st, v] 30)).alloc (.cells #[.string (bs k1), .string (bs k2)] 32)).alloc (.cells #[.string (bs []), .int .i64 0, .slice none 0 0] 30)) := (((Below.refl _ _).alloc (Nat.le_refl _) _).alloc (by simp) _).alloc (by simp; omega) _
  have hsz : (((w.alloc (.cells #[.string (bs nm), .int .i64 st, v] 30)).alloc (.cells #[.string (bs k1), .string (bs k2)] 32)).alloc (.cells #[.string (bs []), .int .i64 0, .slice none 0 0] 30)).heap.size = w.heap.size + 1 + 1 + 1 := by simp
  refine ⟨B3, hsz, ?_⟩
  simp only [alloc_size] at K3 R4
  generalize (((w.alloc (.cells #[.string (bs nm), .int .i64 st, v] 30)).alloc (.cells #[.string (bs k1), .string (bs k2)] 32)).alloc (.cells #[.string (bs []), .int .i64 0, .slice none 0 0] 30)) = W3 at *
  refine hid fun W' h => ?_
  have K := K3.below h (by omega)
  exact ⟨⟨Box3.of (M3.below h (by omega)), K.cell 0, K.cell 1⟩, R4.below h (by omega)⟩
-- GENERATED BELOW
set_option maxHeartbeats 2000000 in
theorem implCalledLead_law (m : Meth) (k : List UInt8 × List UInt8) (call : List UInt8) (A : Option Addr) (n c : Nat) (w : World) (ok : LawOk m k) (rd : Rd w A n (strV m.ch)) (hcap : n ≤ c) :
    Calls Try.prog 23 #[.agg #[.string (bs m.nm), .int .i64 m.st, .slice A n c], .agg #[.string (bs k.1), .string (bs k.2)], .string (bs call)] w (ResM w (calledR m k call)) := by
  have hn : n ≤ 1048576 := by have h1 := rd.1; have h2 := ok.2.2.1; rw [strV_len] at h1; omega
  have hcl : m.ch.length = n := by have h1 := rd.1; rw [strV_len] at h1; exact h1
  have GC0 := fun (w0 : World) (rd : Rd w0 A n (strV m.ch)) => hid (goodCalls_law m k A n c w0 ok rd)
  have GC1 := fun (w0 : World) (rd : Rd w0 A n (strV m.ch)) => hid (isCall_any call w0)
  have RS := hid rd
  have HOK := hid ok
  clear rd ok
  cases hg0 : callsB m k
  · rw [hg0] at GC0
    have HR := hid (calledR_no (m := m) (k := k) (call := call) (by rw [hg0]; rfl))
    clear hg0
    obtain ⟨nm, st, ch⟩ := m
    obtain ⟨k1, k2⟩ := k
    dsimp only at *
    clear HOK
    go_enter Try.func23, Try.ntmps23
    go_wp2_with fail
    obtain ⟨B2, hsz, HC⟩ := box_mkR w nm k1 k2 st (.slice A n c)
    have R2 := hid (RS.out.below B2)
    have HB2 := hid B2
    have hw2 := B2.size
    have HSZ := hid hsz
    generalize (((w.alloc (.cells #[.string (bs nm), .int .i64 st, .slice A n c] 30)).alloc (.cells #[.string (bs k1), .string (bs k2)] 32)).alloc (.cells #[.string (bs []), .int .i64 0, .slice none 0 0] 30)) = W2 at *
    clear B2 hsz
    have HS5 : ∀ W', Below W2.heap.size W2 W' → W'.cell? ⟨w.heap.size, 0, none⟩ = some (.string (bs nm)) ∧ W'.cell? ⟨w.heap.size, 1, none⟩ = some (.int .i64 st) ∧ W'.cell? ⟨w.heap.size, 2, none⟩ = some (.slice A n c) ∧ W'.cell? ⟨w.heap.size + 1, 0, none⟩ = some (.string (bs k1)) ∧ W'.cell? ⟨w.heap.size + 1, 1, none⟩ = some (.string (bs k2)) := fun W' h => by
      obtain ⟨⟨⟨a0, a1, a2⟩, a3, a4⟩, _⟩ := HC.out _ h
      exact ⟨a0, a1, a2, a3, a4⟩
    have HHS5 := hid HS5
    have HRB := hid (fun W' h => (HC.out W' h).2)
    clear HS5 HC
    have E0 : Hid (Below W2.heap.size W2 W2) := hid (Below.refl _ _)
    obtain ⟨n0, n1, n2, p0, p1⟩ := HHS5.out _ E0.out
    refine (GC0 _ (R2.out.below E0.out)).out.mono ?_
    rintro e wx0 ⟨rfl, bx⟩
    have E1 := hid (E0.out.trans (bx.mono E0.out.size))
    clear bx n0 n1 n2 p0 p1
    obtain ⟨n0, n1, n2, p0, p1⟩ := HHS5.out _ E1.out
    have RX := HRB.out _ E1.out
    have r0 := RX.cell 0
    have r1 := RX.cell 1
    have r2 := RX.cell 2
    have g0 := RX.frozen 0
    have g1 := RX.frozen 1
    have g2 := RX.frozen 2
    simp only [List.getElem?_toArray, List.getElem?_cons_zero, List.getElem?_cons_succ] at r0 r1 r2
    clear RX
    go_wp2
    refine bodyPost_ret (v := .tuple #[.agg #[.string (bs []), .int .i64 0, .slice none 0 0], .bool false]) (by simp [results, Try.results23, go_sem, r0, r1, r2]) rfl ?_
    rw [HR.out]
    exact ResM.none _ _ (set3_below (HB2.out.trans (E1.out.mono hw2)) (by omega) _ _ _)
  · rw [hg0] at GC0
    cases hg1 : isCallL call
    · rw [hg1] at GC1
      have HR := hid (calledR_no (m := m) (k := k) (call := call) (by rw [hg0, hg1]; rfl))
      clear hg0 hg1
      obtain ⟨nm, st, ch⟩ := m
      obtain ⟨k1, k2⟩ := k
      dsimp only at *
      clear HOK
      go_enter Try.func23, Try.ntmps23
      go_wp2_with fail
      obtain ⟨B2, hsz, HC⟩ := box_mkR w nm k1 k2 st (.slice A n c)
      have R2 := hid (RS.out.below B2)
      have HB2 := hid B2
      have hw2 := B2.size
      have HSZ := hid hsz
      generalize (((w.alloc (.cells #[.string (bs nm), .int .i64 st, .slice A n c] 30)).alloc (.cells #[.string (bs k1), .string (bs k2)] 32)).alloc (.cells #[.string (bs []), .int .i64 0, .slice none 0 0] 30)) = W2 at *
      clear B2 hsz
      have HS5 : ∀ W', Below W2.heap.size W2 W' → W'.cell? ⟨w.heap.size, 0, none⟩ = some (.string (bs nm)) ∧ W'.cell? ⟨w.heap.size, 1, none⟩ = some (.int .i64 st) ∧ W'.cell? ⟨w.heap.size, 2, none⟩ = some (.slice A n c) ∧ W'.cell? ⟨w.heap.size + 1, 0, none⟩ = some (.string (bs k1)) ∧ W'.cell? ⟨w.heap.size + 1, 1, none⟩ = some (.string (bs k2)) := fun W' h => by
        obtain ⟨⟨⟨a0, a1, a2⟩, a3, a4⟩, _⟩ := HC.out _ h
        exact ⟨a0, a1, a2, a3, a4⟩
      have HHS5 := hid HS5
      have HRB := hid (fun W' h => (HC.out W' h).2)
      clear HS5 HC
      have E0 : Hid (Below W2.heap.size W2 W2) := hid (Below.refl _ _)
      obtain ⟨n0, n1, n2, p0, p1⟩ := HHS5.out _ E0.out
      refine (GC0 _ (R2.out.below E0.out)).out.mono ?_
      rintro e wx0 ⟨rfl, bx⟩
      have E1 := hid (E0.out.trans (bx.mono E0.out.size))
      clear bx n0 n1 n2 p0 p1
      obtain ⟨n0, n1, n2, p0, p1⟩ := HHS5.out _ E1.out
      go_wp2_with fail
      refine (GC1 _ (R2.out.below E1.out)).out.mono ?_
      rintro e w' ⟨rfl, rfl⟩
      have RX := HRB.out _ E1.out
      have r0 := RX.cell 0
      have r1 := RX.cell 1
      have r2 := RX.cell 2
      have g0 := RX.frozen 0
      have g1 := RX.frozen 1
      have g2 := RX.frozen 2
      simp only [List.getElem?_toArray, List.getElem?_cons_zero, List.getElem?_cons_succ] at r0 r1 r2
      clear RX
      go_wp2
      refine bodyPost_ret (v := .tuple #[.agg #[.string (bs []), .int .i64 0, .slice none 0 0], .bool false]) (by simp [results, Try.results23, go_sem, r0, r1, r2]) rfl ?_
      rw [HR.out]
      exact ResM.none _ _ (set3_below (HB2.out.trans (E1.out.mono hw2)) (by omega) _ _ _)
    · rw [hg1] at GC1
      have HR := hid (show calledR m k call = (⟨m.nm, m.st, calledL m.ch k call⟩, true) by unfold calledR; rw [hg0, hg1]; rfl)
      obtain ⟨N, hN, lo, hi, l1, l40, hs⟩ := meth_parts (callsB_meth (m := m) (k := k) hg0)
      have BC := fun (w0 : World) (rd : Rd w0 A n (strV m.ch)) => hid (calledLead_any m.nm call m.st m.ch k A n c w0 rd hn l1)
      have hcll := hid (calledL_len k call l1)
      clear hg0 hg1 hN lo hi l40 hs l1
      obtain ⟨nm, st, ch⟩ := m
      obtain ⟨k1, k2⟩ := k
      dsimp only at *
      clear HOK
      go_enter Try.func23, Try.ntmps23
      go_wp2_with fail
      obtain ⟨B2, hsz, HC⟩ := box_mkR w nm k1 k2 st (.slice A n c)
      have R2 := hid (RS.out.below B2)
      have HB2 := hid B2
      have hw2 := B2.size
      have HSZ := hid hsz
      generalize (((w.alloc (.cells #[.string (bs nm), .int .i64 st, .slice A n c] 30)).alloc (.cells #[.string (bs k1), .string (bs k2)] 32)).alloc (.cells #[.string (bs []), .int .i64 0, .slice none 0 0] 30)) = W2 at *
      clear B2 hsz
      have HS5 : ∀ W', Below W2.heap.size W2 W' → W'.cell? ⟨w.heap.size, 0, none⟩ = some (.string (bs nm)) ∧ W'.cell? ⟨w.heap.size, 1, none⟩ = some (.int .i64 st) ∧ W'.cell? ⟨w.heap.size, 2, none⟩ = some (.slice A n c) ∧ W'.cell? ⟨w.heap.size + 1, 0, none⟩ = some (.string (bs k1)) ∧ W'.cell? ⟨w.heap.size + 1, 1, none⟩ = some (.string (bs k2)) := fun W' h => by
        obtain ⟨⟨⟨a0, a1, a2⟩, a3, a4⟩, _⟩ := HC.out _ h
        exact ⟨a0, a1, a2, a3, a4⟩
      have HHS5 := hid HS5
      have HRB := hid (fun W' h => (HC.out W' h).2)
      clear HS5 HC
      have E0 : Hid (Below W2.heap.size W2 W2) := hid (Below.refl _ _)
      obtain ⟨n0, n1, n2, p0, p1⟩ := HHS5.out _ E0.out
      refine (GC0 _ (R2.out.below E0.out)).out.mono ?_
      rintro e wx0 ⟨rfl, bx⟩
      have E1 := hid (E0.out.trans (bx.mono E0.out.size))
      clear bx n0 n1 n2 p0 p1
      obtain ⟨n0, n1, n2, p0, p1⟩ := HHS5.out _ E1.out
      go_wp2_with fail
      refine (GC1 _ (R2.out.below E1.out)).out.mono ?_
      rintro e w' ⟨rfl, rfl⟩
      go_wp2_with fail
      refine (BC _ (R2.out.below E1.out)).out.mono ?_
      rintro e wx1 ⟨v2, rfl, o2, b2⟩
      obtain ⟨A2, c2, rfl, _⟩ := own_shape o2
      have E2 := hid (E1.out.trans (b2.mono E1.out.size))
      have O2 := hid o2
      have hs1 := E1.out.size
      clear b2 o2 n0 n1 n2 p0 p1
      dsimp only at *
      have RX := HRB.out _ E2.out
      have r0 := RX.cell 0
      have r1 := RX.cell 1
      have r2 := RX.cell 2
      have g0 := RX.frozen 0
      have g1 := RX.frozen 1
      have g2 := RX.frozen 2
      simp only [List.getElem?_toArray, List.getElem?_cons_zero, List.getElem?_cons_succ] at r0 r1 r2
      clear RX
      go_wp2
      refine bodyPost_ret (v := .tuple #[.agg #[.string (bs nm), .int .i64 st, .slice A2 (calledL ch (k1, k2) call).length c2], .bool true]) (by simp [results, Try.results23, go_sem, r0, r1, r2]) rfl ?_
      rw [HR.out]
      have hz := HSZ.out
      exact ⟨_, rfl, own_mono (set3_own O2.out (by omega) _ _ _) (by omega), set3_below (HB2.out.trans (E2.out.mono hw2)) (by omega) _ _ _⟩
set_option maxHeartbeats 2000000 in
theorem l4Own_any (m : Meth) (A : Option Addr) (n c : Nat) (w : World) (hr : Rd w A n (strV m.ch)) (hn : n ≤ 1048576) :
    Calls Try.prog 62 #[.agg #[.string (bs m.nm), .int .i64 m.st, .slice A n c]] w (OneM w m) := by
  obtain ⟨nm, st, ch⟩ := m
  dsimp only at *
  have HT := fun (w0 : World) (rd : Rd w0 A n (strV ch)) => hid (l1OwnSx_any A n c ch w0 rd (by omega))
  have RS := hid hr
  clear hr
  go_enter Try.func62, Try.ntmps62
  go_wp2_with fail
  have M1 := Blk.new w 30 #[.string (bs nm), .int .i64 st, .slice A n c]
  have M2 := M1.alloc (.cells #[.string (bs []), .int .i64 0, .slice none 0 0] 30)
  have Z2 := Blk.new (w.alloc (.cells #[.string (bs nm), .int .i64 st, .slice A n c] 30)) 30 #[.string (bs []), .int .i64 0, .slice none 0 0]
  have B2 : Below w.heap.size w ((w.alloc (.cells #[.string (bs nm), .int .i64 st, .slice A n c] 30)).alloc (.cells #[.string (bs []), .int .i64 0, .slice none 0 0] 30)) := ((Below.refl _ _).alloc (Nat.le_refl _) _).alloc (by simp) _
  have hsz : ((w.alloc (.cells #[.string (bs nm), .int .i64 st, .slice A n c] 30)).alloc (.cells #[.string (bs []), .int .i64 0, .slice none 0 0] 30)).heap.size = w.heap.size + 1 + 1 := by simp
  simp only [alloc_size] at Z2
  generalize ((w.alloc (.cells #[.string (bs nm), .int .i64 st, .slice A n c] 30)).alloc (.cells #[.string (bs []), .int .i64 0, .slice none 0 0] 30)) = W2 at *
  have HMB := hid (fun W' (h : Below W2.heap.size W2 W') => Box3.of (M2.below h (by omega)))
  have HZB := hid (fun W' (h : Below W2.heap.size W2 W') => Z2.below h (by omega))
  have R2 := hid (RS.out.below B2)
  have HB2 := hid B2
  have HSZ := hid hsz
  obtain ⟨c0, c1, c2⟩ := HMB.out W2 (Below.refl _ _)
  clear M1 M2 Z2 B2 hsz
  go_region_held3 (fun w' => w'.cell? ⟨w.heap.size, 0, none⟩ = some (.string (bs nm)) ∧ w'.cell? ⟨w.heap.size, 1, none⟩ = some (.int .i64 st) ∧ w'.cell? ⟨w.heap.size, 2, none⟩ = some (.slice A n c))
    (first | exact ⟨c0, c1, c2⟩ | exact HMB.out _ (Below.refl _ _).drew | exact HMB.out _ B6 | exact box3_set_ne (box3_set_ne (box3_set_ne (HMB.out _ B6) (Nat.ne_of_lt (Nat.lt_succ_self _))) (Nat.ne_of_lt (Nat.lt_succ_self _))) (Nat.ne_of_lt (Nat.lt_succ_self _)))
    (first | (go_at_call 97; refine (HT _ (R2.out.drewN 1)).out.mono ?_; rintro e w6 ⟨v6, rfl, o6, b6⟩; obtain ⟨A6, c6, rfl, _⟩ := own_shape o6; have B6 := (Below.refl W2.heap.size W2).drew.trans (b6.mono (Nat.le_refl _)); have zf := hid (HZB.out _ B6); obtain ⟨z0, z1, z2⟩ := Box3.of zf.out; have y0 := zf.out.frozen 0; have y1 := zf.out.frozen 1; have y2 := zf.out.frozen 2))
  have HO := hid o6
  have HB6 := hid B6
  clear o6 b6 B6 c0 c1 c2
  go_wp2
  refine bodyPost_ret (v := .agg #[.string (bs nm), .int .i64 st, .slice A6 ch.length c6]) (by simp [results, Try.results62, go_sem, z0, z1, z2]) rfl ?_
  have hz := HSZ.out
  exact ⟨_, rfl, own_mono (set3_own HO.out (by show w.heap.size + 1 < W2.heap.size; omega) _ _ _) (by show w.heap.size ≤ W2.heap.size; omega), set3_below (HB2.out.trans (HB6.out.mono (by omega))) (by omega) _ _ _⟩
set_option maxHeartbeats 2000000 in
theorem specCalledLead_law (m : Meth) (k : List UInt8 × List UInt8) (call : List UInt8) (A : Option Addr) (n c : Nat) (w : World) (ok : LawOk m k) (rd : Rd w A n (strV m.ch)) (hcap : n ≤ c) :
    Calls Try.prog 22 #[.agg #[.string (bs m.nm), .int .i64 m.st, .slice A n c], .agg #[.string (bs k.1), .string (bs k.2)], .string (bs call)] w (ResM w (calledR m k call)) := by
  have hn : n ≤ 1048576 := by have h1 := rd.1; have h2 := ok.2.2.1; rw [strV_len] at h1; omega
  have hcl : m.ch.length = n := by have h1 := rd.1; rw [strV_len] at h1; exact h1
  have GC0 := fun (w0 : World) (rd : Rd w0 A n (strV m.ch)) => hid (l8Asked_any m k call A n c w0 ok rd)
  have RS := hid rd
  have HOK := hid ok
  clear rd ok
  cases hg0 : callsB m k && isCallL call
  · rw [hg0] at GC0
    have HR := hid (calledR_no hg0)
    clear hg0
    obtain ⟨nm, st, ch⟩ := m
    obtain ⟨k1, k2⟩ := k
    dsimp only at *
    clear HOK
    go_enter Try.func22, Try.ntmps22
    go_wp2_with fail
    obtain ⟨B2, hsz, HC⟩ := box_mkR w nm k1 k2 st (.slice A n c)
    have R2 := hid (RS.out.below B2)
    have HB2 := hid B2
    have hw2 := B2.size
    have HSZ := hid hsz
    generalize (((w.alloc (.cells #[.string (bs nm), .int .i64 st, .slice A n c] 30)).alloc (.cells #[.string (bs k1), .string (bs k2)] 32)).alloc (.cells #[.string (bs []), .int .i64 0, .slice none 0 0] 30)) = W2 at *
    clear B2 hsz
    have HS5 : ∀ W', Below W2.heap.size W2 W' → W'.cell? ⟨w.heap.size, 0, none⟩ = some (.string (bs nm)) ∧ W'.cell? ⟨w.heap.size, 1, none⟩ = some (.int .i64 st) ∧ W'.cell? ⟨w.heap.size, 2, none⟩ = some (.slice A n c) ∧ W'.cell? ⟨w.heap.size + 1, 0, none⟩ = some (.string (bs k1)) ∧ W'.cell? ⟨w.heap.size + 1, 1, none⟩ = some (.string (bs k2)) := fun W' h => by
      obtain ⟨⟨⟨a0, a1, a2⟩, a3, a4⟩, _⟩ := HC.out _ h
      exact ⟨a0, a1, a2, a3, a4⟩
    have HHS5 := hid HS5
    have HRB := hid (fun W' h => (HC.out W' h).2)
    clear HS5 HC
    have E0 : Hid (Below W2.heap.size W2 W2) := hid (Below.refl _ _)
    obtain ⟨n0, n1, n2, p0, p1⟩ := HHS5.out _ E0.out
    refine (GC0 _ (R2.out.below E0.out)).out.mono ?_
    rintro e wx0 ⟨rfl, bx⟩
    have E1 := hid (E0.out.trans (bx.mono E0.out.size))
    clear bx n0 n1 n2 p0 p1
    obtain ⟨n0, n1, n2, p0, p1⟩ := HHS5.out _ E1.out
    have RX := HRB.out _ E1.out
    have r0 := RX.cell 0
    have r1 := RX.cell 1
    have r2 := RX.cell 2
    have g0 := RX.frozen 0
    have g1 := RX.frozen 1
    have g2 := RX.frozen 2
    simp only [List.getElem?_toArray, List.getElem?_cons_zero, List.getElem?_cons_succ] at r0 r1 r2
    clear RX
    go_wp2
    refine bodyPost_ret (v := .tuple #[.agg #[.string (bs []), .int .i64 0, .slice none 0 0], .bool false]) (by simp [results, Try.results22, go_sem, r0, r1, r2]) rfl ?_
    rw [HR.out]
    exact ResM.none _ _ (set3_below (HB2.out.trans (E1.out.mono hw2)) (by omega) _ _ _)
  · rw [hg0] at GC0
    have HR := hid (show calledR m k call = (⟨m.nm, m.st, calledL m.ch k call⟩, true) by unfold calledR; rw [hg0]; rfl)
    have hcalls : callsB m k = true := by simp only [Bool.and_eq_true] at hg0; exact hg0.1
    obtain ⟨N, hN, lo, hi, l1, l40, hs⟩ := meth_parts (callsB_meth (m := m) (k := k) hcalls)
    have BC := fun (w0 : World) (rd : Rd w0 A n (strV m.ch)) => hid (l4Own_any m A n c w0 rd hn)
    have BL := fun (w0 : World) (rd : Rd w0 A n (strV m.ch)) => hid (l8Change_any m.nm call m.st m.ch k A n c w0 rd hn l1)
    have hcll := hid (calledL_len k call l1)
    have hset := hid (show m.ch.set (m.ch.length - 1) (lastC m.ch k call) = calledL m.ch k call from calledL_set l1 _)
    clear hg0 hN lo hi l40 hs hcalls
    obtain ⟨nm, st, ch⟩ := m
    obtain ⟨k1, k2⟩ := k
    dsimp only at *
    clear HOK
    go_enter Try.func22, Try.ntmps22
    go_wp2_with fail
    obtain ⟨B2, hsz, HC⟩ := box_mkR w nm k1 k2 st (.slice A n c)
    have R2 := hid (RS.out.below B2)
    have HB2 := hid B2
    have hw2 := B2.size
    have HSZ := hid hsz
    generalize (((w.alloc (.cells #[.string (bs nm), .int .i64 st, .slice A n c] 30)).alloc (.cells #[.string (bs k1), .string (bs k2)] 32)).alloc (.cells #[.string (bs []), .int .i64 0, .slice none 0 0] 30)) = W2 at *
    clear B2 hsz
    have HS5 : ∀ W', Below W2.heap.size W2 W' → W'.cell? ⟨w.heap.size, 0, none⟩ = some (.string (bs nm)) ∧ W'.cell? ⟨w.heap.size, 1, none⟩ = some (.int .i64 st) ∧ W'.cell? ⟨w.heap.size, 2, none⟩ = some (.slice A n c) ∧ W'.cell? ⟨w.heap.size + 1, 0, none⟩ = some (.string (bs k1)) ∧ W'.cell? ⟨w.heap.size + 1, 1, none⟩ = some (.string (bs k2)) := fun W' h => by
      obtain ⟨⟨⟨a0, a1, a2⟩, a3, a4⟩, _⟩ := HC.out _ h
      exact ⟨a0, a1, a2, a3, a4⟩
    have HHS5 := hid HS5
    have HRB := hid (fun W' h => (HC.out W' h).2)
    clear HS5 HC
    have E0 : Hid (Below W2.heap.size W2 W2) := hid (Below.refl _ _)
    obtain ⟨n0, n1, n2, p0, p1⟩ := HHS5.out _ E0.out
    refine (GC0 _ (R2.out.below E0.out)).out.mono ?_
    rintro e wx0 ⟨rfl, bx⟩
    have E1 := hid (E0.out.trans (bx.mono E0.out.size))
    clear bx n0 n1 n2 p0 p1
    obtain ⟨n0, n1, n2, p0, p1⟩ := HHS5.out _ E1.out
    go_wp2_with fail
    refine (BC _ (R2.out.below E1.out)).out.mono ?_
    rintro e w6 ⟨v6, rfl, o6, b6⟩
    obtain ⟨A6, c6, rfl, _⟩ := own_shape o6
    dsimp only at *
    obtain ⟨j, hj1⟩ : ∃ j, ch.length = j + 1 := ⟨ch.length - 1, by omega⟩
    rw [hj1] at o6
    obtain ⟨q, cur, hv, hg, hh, hcc, hmm⟩ : ∃ q cur, A6 = some ⟨q, 0, none⟩ ∧ wx0.heap.size ≤ q ∧ w6.heap[q]? = some (.cells cur 9 (0, 0)) ∧ j + 1 ≤ c6 ∧ c6 ≤ maxLen := by
      rcases o6.2 with ⟨e, _⟩ | ⟨g, cap, cur, e, h1, h2, h3, h4, _⟩
      · injection e with e1 e2 e3; cases e2
      · injection e with e1 e2 e3
        subst e3
        exact ⟨g, cur, e1, h1, h2, h3, h4⟩
    subst hv
    have hq6 : q < w6.heap.size := (o6.lt q rfl).2
    have E2 := hid (E1.out.trans (b6.mono E1.out.size))
    have X8 := Blk.new w6 30 #[.string (bs nm), .int .i64 st, .slice (some ⟨q, 0, none⟩) (j + 1) c6]
    have O8 := hid (own_below o6 ((Below.refl _ _).alloc (Nat.le_refl _) (.cells #[.string (bs nm), .int .i64 st, .slice (some ⟨q, 0, none⟩) (j + 1) c6] 30)))
    have E8 := hid (E2.out.alloc E2.out.size (.cells #[.string (bs nm), .int .i64 st, .slice (some ⟨q, 0, none⟩) (j + 1) c6] 30))
    have hs8 : w6.heap.size < (w6.alloc (.cells #[.string (bs nm), .int .i64 st, .slice (some ⟨q, 0, none⟩) (j + 1) c6] 30)).heap.size := by simp
    have hs1 := E1.out.size
    rw [hj1]
    clear b6 o6 hh n0 n1 n2 p0 p1
    obtain ⟨n0, n1, n2, p0, p1⟩ := HHS5.out _ E2.out
    go_wp2_with fail
    generalize (w6.alloc (.cells #[.string (bs nm), .int .i64 st, .slice (some ⟨q, 0, none⟩) (j + 1) c6] 30)) = W8 at *
    clear n0 n1 n2 p0 p1
    obtain ⟨G8, hG8⟩ : ∃ g, g = w6.heap.size := ⟨_, rfl⟩
    rw [← hG8] at X8 hs8 hq6 ⊢
    clear hG8
    have HS8 := hid (fun W' (h : Below W8.heap.size W8 W') => (show W'.cell? ⟨w.heap.size, 0, none⟩ = some (.string (bs nm)) ∧ W'.cell? ⟨w.heap.size, 1, none⟩ = some (.int .i64 st) ∧ W'.cell? ⟨w.heap.size, 2, none⟩ = some (.slice A n c) ∧ W'.cell? ⟨w.heap.size + 1, 0, none⟩ = some (.string (bs k1)) ∧ W'.cell? ⟨w.heap.size + 1, 1, none⟩ = some (.string (bs k2)) ∧ W'.cell? ⟨G8, 0, none⟩ = some (.string (bs nm)) ∧ W'.cell? ⟨G8, 1, none⟩ = some (.int .i64 st) ∧ W'.cell? ⟨G8, 2, none⟩ = some (.slice (some ⟨q, 0, none⟩) (j + 1) c6) from by
      obtain ⟨a0, a1, a2, a3, a4⟩ := HHS5.out _ (E8.out.trans (h.mono E8.out.size))
      have X := X8.below h hs8
      exact ⟨a0, a1, a2, a3, a4, X.cell 0, X.cell 1, X.cell 2⟩))
    have HS9 := hid (fun W' (u : Value) (h : Below W8.heap.size W8 W') => (show (W'.setCell ⟨q, j, none⟩ u).cell? ⟨w.heap.size, 0, none⟩ = some (.string (bs nm)) ∧ (W'.setCell ⟨q, j, none⟩ u).cell? ⟨w.heap.size, 1, none⟩ = some (.int .i64 st) ∧ (W'.setCell ⟨q, j, none⟩ u).cell? ⟨w.heap.size, 2, none⟩ = some (.slice A n c) ∧ (W'.setCell ⟨q, j, none⟩ u).cell? ⟨w.heap.size + 1, 0, none⟩ = some (.string (bs k1)) ∧ (W'.setCell ⟨q, j, none⟩ u).cell? ⟨w.heap.size + 1, 1, none⟩ = some (.string (bs k2)) ∧ (W'.setCell ⟨q, j, none⟩ u).cell? ⟨G8, 0, none⟩ = some (.string (bs nm)) ∧ (W'.setCell ⟨q, j, none⟩ u).cell? ⟨G8, 1, none⟩ = some (.int .i64 st) ∧ (W'.setCell ⟨q, j, none⟩ u).cell? ⟨G8, 2, none⟩ = some (.slice (some ⟨q, 0, none⟩) (j + 1) c6) from by
      obtain ⟨a0, a1, a2, a3, a4⟩ := HHS5.out _ ((E8.out.trans (h.mono E8.out.size)).setCell (p := ⟨q, j, none⟩) (show W2.heap.size ≤ q by omega) u)
      obtain ⟨x0, x1, x2⟩ := box3_set_ne (p := ⟨q, j, none⟩) (u := u) (Box3.of (X8.below h hs8)) (Nat.ne_of_gt hq6)
      exact ⟨a0, a1, a2, a3, a4, x0, x1, x2⟩))
    have hjs : j < (strV ch).length := by rw [strV_len]; omega
    have HQ := hid (fun W' (h : Below W8.heap.size W8 W') => (⟨((own_below O8.out h).cellAt j (by omega)).trans (List.getElem?_eq_getElem hjs), (own_below O8.out h).frozenAt j⟩ : _ ∧ _))
    have i0' : (0 : Int) ≤ (j : Int) := by omega
    have i1' : (j : Int) < (j : Int) + 1 := by omega
    have hjn : j < 2000000 := by omega
    have hw1 := hid (IntWalk.i64_in (j : Int) (by omega))
    have hw0 : wrap64 (j : Int) = (j : Int) := by unfold wrap64; omega
    have hw1 := hw1.out
    have R8 := hid (R2.out.below E8.out)
    have HJ := hid hj1
    have HL1 := hid l1
    have hqW : W2.heap.size ≤ q := by omega
    clear hj1 X8 l1
    obtain ⟨n0, n1, n2, p0, p1, x0, x1, x2⟩ := HS8.out _ (Below.refl _ _)
    go_region_held3 (fun w' => w'.cell? ⟨w.heap.size, 0, none⟩ = some (.string (bs nm)) ∧ w'.cell? ⟨w.heap.size, 1, none⟩ = some (.int .i64 st) ∧ w'.cell? ⟨w.heap.size, 2, none⟩ = some (.slice A n c) ∧ w'.cell? ⟨w.heap.size + 1, 0, none⟩ = some (.string (bs k1)) ∧ w'.cell? ⟨w.heap.size + 1, 1, none⟩ = some (.string (bs k2)) ∧ w'.cell? ⟨G8, 0, none⟩ = some (.string (bs nm)) ∧ w'.cell? ⟨G8, 1, none⟩ = some (.int .i64 st) ∧ w'.cell? ⟨G8, 2, none⟩ = some (.slice (some ⟨q, 0, none⟩) (j + 1) c6))
      (first | exact HS8.out _ (Below.refl _ _) | exact HS8.out _ (Below.refl _ _).drew | exact HS8.out _ F9 | exact HS9.out _ _ F9)
      (first | (go_at_call 63; refine (BL _ (R8.out.drewN 1)).out.mono ?_; rintro e w9 ⟨rfl, b9⟩; have F9 := (Below.refl W8.heap.size W8).drew.trans (b9.mono (Nat.le_refl _)); obtain ⟨y0, y1⟩ := HQ.out _ F9))
    have HF9 := hid F9
    clear b9 F9 y0 y1 n0 n1 n2 p0 p1 x0 x1 x2
    have E9 := hid ((E8.out.trans (HF9.out.mono E8.out.size)).setCell (p := ⟨q, j, none⟩) (show W2.heap.size ≤ q from hqW) (.string (bs (lastC ch (k1, k2) call))))
    obtain ⟨n0, n1, n2, p0, p1, x0, x1, x2⟩ := HS9.out _ (.string (bs (lastC ch (k1, k2) call))) HF9.out
    have RX := HRB.out _ E9.out
    have r0 := RX.cell 0
    have r1 := RX.cell 1
    have r2 := RX.cell 2
    have g0 := RX.frozen 0
    have g1 := RX.frozen 1
    have g2 := RX.frozen 2
    simp only [List.getElem?_toArray, List.getElem?_cons_zero, List.getElem?_cons_succ] at r0 r1 r2
    clear RX
    go_wp2
    refine bodyPost_ret (v := .tuple #[.agg #[.string (bs nm), .int .i64 st, .slice (some ⟨q, 0, none⟩) (j + 1) c6], .bool true]) (by simp [results, Try.results22, go_sem, r0, r1, r2]) rfl ?_
    clear hw0 hw1
    rw [HR.out]
    have hz := HSZ.out
    have h2 := ((own_below O8.out HF9.out).stored j (.string (bs (lastC ch (k1, k2) call)))).1
    rw [strV_set, show j = ch.length - 1 by rw [HJ.out]; omega, hset.out] at h2
    rw [show ch.length - 1 = j by rw [HJ.out]; omega] at h2
    refine ⟨_, rfl, ?_, set3_below (HB2.out.trans (E9.out.mono hw2)) (by omega) _ _ _⟩
    rw [show (⟨nm, st, calledL ch (k1, k2) call⟩ : Meth).ch.length = j + 1 from hcll.out.trans HJ.out]
    exact own_mono (set3_own h2 (by omega) _ _ _) (by omega)
end Go.Proofs.Ytdmipllbifofmaa
