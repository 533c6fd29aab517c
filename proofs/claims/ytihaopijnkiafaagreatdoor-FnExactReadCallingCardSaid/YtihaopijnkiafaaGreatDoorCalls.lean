/- Contracts of the tests of a method with its calls, in the reference and in the program. No conditions beyond those stated. -/
import Derived.Test.YtihaopijnkiafaaGreatDoorGood
import Derived.Test.YtihaopijnkiafaaGreatDoorCall
import Derived.Test.YtihaopijnkiafaaGreatDoorMeth2
set_option linter.unusedVariables false
set_option linter.unusedSimpArgs false
set_option maxRecDepth 100000
namespace Go.Proofs.YtihaopijnkiafaaGreatDoor
open Go.RowKit

/-- Which method and calls are valid. -/
def callsB (m : Meth) (k : List UInt8 × List UInt8) : Bool := methB m && (okChange m.st k.1 && okChange m.st k.2)
theorem callsB_meth {m : Meth} {k : List UInt8 × List UInt8} (h : callsB m k = true) : methB m = true := by simp only [callsB, Bool.and_eq_true] at h; exact h.1
theorem callsB_bob {m : Meth} {k : List UInt8 × List UInt8} (h : callsB m k = true) : okChange m.st k.1 = true := by simp only [callsB, Bool.and_eq_true] at h; exact h.2.1
theorem callsB_single {m : Meth} {k : List UInt8 × List UInt8} (h : callsB m k = true) : okChange m.st k.2 = true := by simp only [callsB, Bool.and_eq_true] at h; exact h.2.2

/-- What the boxes of a method and of its calls hold, in every world behind. -/
theorem box_mk2 (T1 T2 : TypeId) (w : World) (nm k1 k2 : List UInt8) (st : Int) (v : Value) :
    Below w.heap.size w ((w.alloc (.cells #[.string (bs nm), .int .i64 st, v] T1)).alloc (.cells #[.string (bs k1), .string (bs k2)] T2)) ∧
    ((w.alloc (.cells #[.string (bs nm), .int .i64 st, v] T1)).alloc (.cells #[.string (bs k1), .string (bs k2)] T2)).heap.size = w.heap.size + 1 + 1 ∧
    Hid (∀ W', Below ((w.alloc (.cells #[.string (bs nm), .int .i64 st, v] T1)).alloc (.cells #[.string (bs k1), .string (bs k2)] T2)).heap.size ((w.alloc (.cells #[.string (bs nm), .int .i64 st, v] T1)).alloc (.cells #[.string (bs k1), .string (bs k2)] T2)) W' →
      Box3 W' w.heap.size (.string (bs nm)) (.int .i64 st) v ∧ W'.cell? ⟨w.heap.size + 1, 0, none⟩ = some (.string (bs k1)) ∧ W'.cell? ⟨w.heap.size + 1, 1, none⟩ = some (.string (bs k2))) := by
  have M1 := Blk.new w T1 #[.string (bs nm), .int .i64 st, v]
  have M2 := M1.alloc (.cells #[.string (bs k1), .string (bs k2)] T2)
  have K2 := Blk.new (w.alloc (.cells #[.string (bs nm), .int .i64 st, v] T1)) T2 #[.string (bs k1), .string (bs k2)]
  have B2 : Below w.heap.size w ((w.alloc (.cells #[.string (bs nm), .int .i64 st, v] T1)).alloc (.cells #[.string (bs k1), .string (bs k2)] T2)) := ((Below.refl _ _).alloc (Nat.le_refl _) _).alloc (by simp) _
  have hsz : ((w.alloc (.cells #[.string (bs nm), .int .i64 st, v] T1)).alloc (.cells #[.string (bs k1), .string (bs k2)] T2)).heap.size = w.heap.size + 1 + 1 := by simp
  refine ⟨B2, hsz, ?_⟩
  simp only [alloc_size] at K2
  generalize ((w.alloc (.cells #[.string (bs nm), .int .i64 st, v] T1)).alloc (.cells #[.string (bs k1), .string (bs k2)] T2)) = W2 at *
  exact hid fun W' h => ⟨Box3.of (M2.below h (by omega)), (K2.below h (by omega)).cell 0, (K2.below h (by omega)).cell 1⟩

theorem box_mk (w : World) (nm k1 k2 : List UInt8) (st : Int) (v : Value) :
    Below w.heap.size w ((w.alloc (.cells #[.string (bs nm), .int .i64 st, v] 31)).alloc (.cells #[.string (bs k1), .string (bs k2)] 33)) ∧
    ((w.alloc (.cells #[.string (bs nm), .int .i64 st, v] 31)).alloc (.cells #[.string (bs k1), .string (bs k2)] 33)).heap.size = w.heap.size + 1 + 1 ∧
    Hid (∀ W', Below ((w.alloc (.cells #[.string (bs nm), .int .i64 st, v] 31)).alloc (.cells #[.string (bs k1), .string (bs k2)] 33)).heap.size ((w.alloc (.cells #[.string (bs nm), .int .i64 st, v] 31)).alloc (.cells #[.string (bs k1), .string (bs k2)] 33)) W' →
      Box3 W' w.heap.size (.string (bs nm)) (.int .i64 st) v ∧ W'.cell? ⟨w.heap.size + 1, 0, none⟩ = some (.string (bs k1)) ∧ W'.cell? ⟨w.heap.size + 1, 1, none⟩ = some (.string (bs k2))) := box_mk2 _ _ w nm k1 k2 st v

set_option maxHeartbeats 1000000 in
theorem goodCalls_any (m : Meth) (k : List UInt8 × List UInt8) (A : Option Addr) (n c : Nat) (w : World) (ws : (Lit.int .i64 m.st).wf = true) (hn : m.nm.length ≤ 1048576) (hr : Rd w A n (strV m.ch)) (hm : n ≤ 1048576) (hs : ∀ s ∈ m.ch, s.length ≤ 1048576) (h1 : k.1.length ≤ 1048576) (h2 : k.2.length ≤ 1048576) :
    Calls Tryz.prog 21 #[.agg #[.string (bs m.nm), .int .i64 m.st, .slice A n c], .agg #[.string (bs k.1), .string (bs k.2)]] w fun e w' => e = .returned (.bool (callsB m k)) ∧ Below w.heap.size w w' := by
  have GM := fun (w0 : World) (rd : Rd w0 A n (strV m.ch)) => hid (goodMethod_any m A n c w0 ws hn rd hm hs)
  have G1 := fun (w0 : World) => hid (goodChange_any m.st k.1 w0 ws h1)
  have G2 := fun (w0 : World) => hid (goodChange_any m.st k.2 w0 ws h2)
  have HR := hid (show callsB m k = (methB m && (okChange m.st k.1 && okChange m.st k.2)) from rfl)
  obtain ⟨nm, st, ch⟩ := m
  obtain ⟨k1, k2⟩ := k
  dsimp only at *
  have RS := hid hr
  clear hr hs ws
  generalize methB ⟨nm, st, ch⟩ = P0 at *
  generalize okChange st k1 = P1 at *
  generalize okChange st k2 = P2 at *
  go_enter Tryz.func21, Tryz.ntmps21
  go_wp2_with fail
  obtain ⟨B2, hsz, HC⟩ := box_mk w nm k1 k2 st (.slice A n c)
  have R2 := hid (RS.out.below B2)
  have HB2 := hid B2
  have HSZ := hid hsz
  generalize ((w.alloc (.cells #[.string (bs nm), .int .i64 st, .slice A n c] 31)).alloc (.cells #[.string (bs k1), .string (bs k2)] 33)) = W2 at *
  clear B2 hsz
  refine (GM _ R2.out).out.mono ?_
  rintro e w1 ⟨rfl, b1⟩
  have B1 := hid b1
  have hs1 := b1.size
  obtain ⟨⟨m0, m1, m2⟩, q0, q1⟩ := HC.out _ b1
  clear b1
  cases P0
  · go_wp2
    go_ret
    exact ⟨ret_bool HR.out.symm, HB2.out.trans (B1.out.mono (by have := HSZ.out; omega))⟩
  · go_wp2_with fail
    refine (G1 _).out.mono ?_
    rintro e w2 ⟨rfl, b2⟩
    have B2 := hid (B1.out.trans (b2.mono hs1))
    have hs2 := B2.out.size
    obtain ⟨⟨m0', m1', m2'⟩, q0', q1'⟩ := HC.out _ B2.out
    clear b2
    cases P1
    · go_wp2
      go_ret
      exact ⟨ret_bool HR.out.symm, HB2.out.trans (B2.out.mono (by have := HSZ.out; omega))⟩
    · go_wp2_with fail
      refine (G2 _).out.mono ?_
      rintro e w3 ⟨rfl, b3⟩
      have B3 := hid (B2.out.trans (b3.mono hs2))
      clear b3
      go_wp2
      go_ret
      exact ⟨ret_bool HR.out.symm, HB2.out.trans (B3.out.mono (by have := HSZ.out; omega))⟩
set_option maxHeartbeats 1000000 in
theorem l8Good_any (m : Meth) (k : List UInt8 × List UInt8) (A : Option Addr) (n c : Nat) (w : World) (ws : (Lit.int .i64 m.st).wf = true) (hn : m.nm.length ≤ 1048576) (hr : Rd w A n (strV m.ch)) (hm : n ≤ 1048576) (hs : ∀ s ∈ m.ch, s.length ≤ 1048576) (h1 : k.1.length ≤ 1048576) (h2 : k.2.length ≤ 1048576) :
    Calls Tryz.prog 27 #[.agg #[.string (bs m.nm), .int .i64 m.st, .slice A n c], .agg #[.string (bs k.1), .string (bs k.2)]] w fun e w' => e = .returned (.bool (callsB m k)) ∧ Below w.heap.size w w' := by
  have GM := fun (w0 : World) (rd : Rd w0 A n (strV m.ch)) => hid (l4Good_any m A n c w0 ws hn rd hm hs)
  have G1 := fun (w0 : World) => hid (l2Change_any m.st k.1 w0 ws (by omega))
  have G2 := fun (w0 : World) => hid (l2Change_any m.st k.2 w0 ws (by omega))
  have HR := hid (show callsB m k = (methB m && (okChange m.st k.1 && okChange m.st k.2)) from rfl)
  obtain ⟨nm, st, ch⟩ := m
  obtain ⟨k1, k2⟩ := k
  dsimp only at *
  have RS := hid hr
  clear hr hs ws
  generalize methB ⟨nm, st, ch⟩ = P0 at *
  generalize okChange st k1 = P1 at *
  generalize okChange st k2 = P2 at *
  go_enter Tryz.func27, Tryz.ntmps27
  go_wp2_with fail
  obtain ⟨B2, hsz, HC⟩ := box_mk w nm k1 k2 st (.slice A n c)
  have R2 := hid (RS.out.below B2)
  have HB2 := hid B2
  have HSZ := hid hsz
  generalize ((w.alloc (.cells #[.string (bs nm), .int .i64 st, .slice A n c] 31)).alloc (.cells #[.string (bs k1), .string (bs k2)] 33)) = W2 at *
  clear B2 hsz
  refine (GM _ R2.out).out.mono ?_
  rintro e w1 ⟨rfl, b1⟩
  have B1 := hid b1
  have hs1 := b1.size
  obtain ⟨⟨m0, m1, m2⟩, q0, q1⟩ := HC.out _ b1
  clear b1
  cases P0
  · go_wp2
    go_ret
    exact ⟨ret_bool HR.out.symm, HB2.out.trans (B1.out.mono (by have := HSZ.out; omega))⟩
  · go_wp2_with fail
    refine (G1 _).out.mono ?_
    rintro e w2 ⟨rfl, rfl⟩
    cases P1
    · go_wp2
      go_ret
      exact ⟨ret_bool HR.out.symm, HB2.out.trans (B1.out.mono (by have := HSZ.out; omega))⟩
    · go_wp2_with fail
      refine (G2 _).out.mono ?_
      rintro e w3 ⟨rfl, rfl⟩
      go_wp2
      go_ret
      exact ⟨ret_bool HR.out.symm, HB2.out.trans (B1.out.mono (by have := HSZ.out; omega))⟩

theorem goodCalls_law (m : Meth) (k : List UInt8 × List UInt8) (A : Option Addr) (n c : Nat) (w : World) (ok : LawOk m k) (rd : Rd w A n (strV m.ch)) :
    Calls Tryz.prog 21 #[.agg #[.string (bs m.nm), .int .i64 m.st, .slice A n c], .agg #[.string (bs k.1), .string (bs k.2)]] w fun e w' => e = .returned (.bool (callsB m k)) ∧ Below w.heap.size w w' := by
  obtain ⟨h1, h2, h3, h4, h5, h6⟩ := ok
  exact goodCalls_any m k A n c w h1 h2 rd (by have := rd.1; rw [strV_len] at this; omega) h4 h5 h6
theorem l8Good_law (m : Meth) (k : List UInt8 × List UInt8) (A : Option Addr) (n c : Nat) (w : World) (ok : LawOk m k) (rd : Rd w A n (strV m.ch)) :
    Calls Tryz.prog 27 #[.agg #[.string (bs m.nm), .int .i64 m.st, .slice A n c], .agg #[.string (bs k.1), .string (bs k.2)]] w fun e w' => e = .returned (.bool (callsB m k)) ∧ Below w.heap.size w w' := by
  obtain ⟨h1, h2, h3, h4, h5, h6⟩ := ok
  exact l8Good_any m k A n c w h1 h2 rd (by have := rd.1; rw [strV_len] at this; omega) h4 h5 h6
end Go.Proofs.YtihaopijnkiafaaGreatDoor
