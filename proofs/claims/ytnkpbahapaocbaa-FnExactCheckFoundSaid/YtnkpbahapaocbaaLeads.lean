/- Contracts of the rows of the leads from some heads, and of the rows of one lead. No conditions beyond those stated. -/
import Derived.Test.YtnkpbahapaocbaaLead
import Derived.Test.YtnkpbahapaocbaaMeth
set_option linter.unusedVariables false
set_option linter.unusedSimpArgs false
set_option maxRecDepth 100000
namespace Go.Proofs.Ytnkpbahapaocbaa
open Go.RowKit

/-- The rows of the leads from some heads. -/
def leadsL (cs : List (List UInt8)) (hs : List (List UInt8)) : List (List UInt8) := hs.flatMap fun h => leadL h cs
theorem leadsL_len (cs hs : List (List UInt8)) : (leadsL cs hs).length = hs.length * cs.length := by
  induction hs with
  | nil => simp [leadsL]
  | cons h hs ih =>
    simp only [leadsL, List.flatMap_cons, List.length_append, lead_len, List.length_cons] at ih ⊢
    rw [ih, Nat.succ_mul, Nat.add_comm]
theorem leadsL_step (cs hs : List (List UInt8)) (k : Nat) (h : k < hs.length) : leadsL cs (hs.take k) ++ leadL hs[k] cs = leadsL cs (hs.take (k + 1)) := by
  unfold leadsL
  rw [List.take_succ_eq_append_getElem h, List.flatMap_append]
  simp
theorem leadsL_rows {N : Nat} (cs : List (List UInt8)) {hs : List (List UInt8)} (h : ∀ x ∈ hs, IsRow x ∧ x.length = N) : ∀ x ∈ leadsL cs hs, IsRow x ∧ x.length = N := by
  intro x hx
  simp only [leadsL, List.mem_flatMap] at hx
  obtain ⟨r, hr, hx⟩ := hx
  have h1 := h r hr
  have h2 := lead_rows cs h1.1 x hx
  exact ⟨h2.1, h2.2.trans h1.2⟩
theorem leadRows_any (N : Nat) (nm r : List UInt8) (st : Int) (cs : List (List UInt8)) (A : Option Addr) (n c : Nat) (w : World) (hrow : IsRow r) (hN : r.length = N) (hr : Rd w A n (strV cs)) (hn : n ≤ 1048576) (hs : ∀ x ∈ cs, okChange (N : Int) x = true) :
    Calls Try.prog 85 #[.agg #[.string (bs nm), .int .i64 st, .slice A n c], .string (bs r)] w (OneS w (leadL r cs)) := by
  have hl := hid (show cs.length = n by have := hr.1; rw [strV_len] at this; exact this)
  have HU := fun (w0 : World) (rd : Rd w0 A n (strV cs)) => hid (rowsUnder_any A n c cs r w0 rd hn hrow (by rw [hN]; exact hs))
  have RS := hid hr
  clear hr hs
  have q2 : (w.alloc (.cells #[.string (bs nm), .int .i64 st, .slice A n c] 34)).drew.cell? ⟨w.heap.size, 2, none⟩ = some (.slice A n c) := (Blk.new w 34 #[.string (bs nm), .int .i64 st, .slice A n c]).cell 2
  have hB : w.heap.size < (w.alloc (.cells #[.string (bs nm), .int .i64 st, .slice A n c] 34)).drew.heap.size := by simp
  have i0 : (0 : Int) ≤ (n : Int) := Int.natCast_nonneg n
  go_enter Try.func85, Try.ntmps85
  go_wp2_with fail
  go_region_held3 (fun w' => w'.cell? ⟨w.heap.size, 2, none⟩ = some (.slice A n c)) (first | exact q2 | exact (b1.cell (p := ⟨w.heap.size, 2, none⟩) hB).trans q2)
    (first | (go_at_call 103; refine (HU _ ((RS.out.alloc _).drewN 1)).out.mono ?_; rintro e w1 ⟨v1, rfl, o1, b1⟩; rw [scan_len, hl.out] at o1; obtain ⟨A1, c1, rfl, hc1, _⟩ := own_shape o1; have j2 := Int.ofNat_le.2 (Nat.le_of_succ_le hc1)))
  have HT := hid (own_take o1 (k := n) (by omega) (by omega))
  have HB := hid ((((Below.refl w.heap.size w).alloc (Nat.le_refl _) (.cells #[.string (bs nm), .int .i64 st, .slice A n c] 34)).drew).trans (b1.mono (by simp)))
  have HE : strV (leadL r cs) = (strV (scanL r cs)).take n := by rw [← strV_take, ← hl.out]; rfl
  have HEE := hid HE
  clear o1 b1 q2 hB j2 HE
  go_wp2
  go_ret
  refine ⟨_, rfl, ?_, HB.out⟩
  rw [lead_len, hl.out, HEE.out]
  exact own_mono HT.out (by simp)
theorem l11Lead_any (N : Nat) (nm r : List UInt8) (st : Int) (cs : List (List UInt8)) (A : Option Addr) (n c : Nat) (w : World) (hrow : IsRow r) (hN : r.length = N) (hr : Rd w A n (strV cs)) (hn : n ≤ 1048576) (hs : ∀ x ∈ cs, okChange (N : Int) x = true) :
    Calls Try.prog 73 #[.agg #[.string (bs nm), .int .i64 st, .slice A n c], .string (bs r)] w (OneS w (leadL r cs)) := by
  have hl := hid (show cs.length = n by have := hr.1; rw [strV_len] at this; exact this)
  have HU := fun (w0 : World) (rd : Rd w0 A n (strV cs)) => hid (l4Lead_any A n c cs r w0 rd hn hrow (by rw [hN]; exact hs))
  have RS := hid hr
  clear hr hs
  have q2 := (Blk.new w 34 #[.string (bs nm), .int .i64 st, .slice A n c]).cell 2
  simp only [List.getElem?_toArray, List.getElem?_cons_zero, List.getElem?_cons_succ] at q2
  have B2 : Below w.heap.size w (w.alloc (.cells #[.string (bs nm), .int .i64 st, .slice A n c] 34)) := (Below.refl _ _).alloc (Nat.le_refl _) _
  have HB2 := hid B2
  have R2 := hid (RS.out.below B2)
  have hw2 := B2.size
  go_enter Try.func73, Try.ntmps73
  go_wp2_with fail
  refine (HU _ R2.out).out.mono ?_
  rintro e w1 ⟨v1, rfl, o1, b1⟩
  obtain ⟨A1, c1, rfl, _⟩ := own_shape o1
  have HO := hid o1
  have HB := hid (HB2.out.trans (b1.mono hw2))
  clear o1 b1 q2
  go_wp2
  go_ret
  exact ⟨_, rfl, by rw [lead_len]; exact own_mono HO.out hw2, HB.out⟩
end Go.Proofs.Ytnkpbahapaocbaa
