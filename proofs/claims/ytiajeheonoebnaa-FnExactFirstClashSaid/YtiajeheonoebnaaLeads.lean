/- Contracts of the rows of the leads from some heads, and of the rows of one lead. No conditions beyond those stated. -/
import Derived.Test.YtiajeheonoebnaaLead
import Derived.Test.YtiajeheonoebnaaMeth
set_option linter.unusedVariables false
set_option linter.unusedSimpArgs false
set_option maxRecDepth 100000
namespace Go.Proofs.Ytiajeheonoebnaa
open Go.RowKit

/-- The rows of the leads from some heads. -/
def leadsL (cs : List (List UInt8)) (hs : List (List UInt8)) : List (List UInt8) := hs.flatMap fun h => leadL h cs
theorem leadsL_len (cs hs : List (List UInt8)) : (leadsL cs hs).length = hs.length * cs.length := by
  induction hs with
  | nil => simp [leadsL]
  | cons h hs ih =>
    simp only [leadsL, List.flatMap_cons, List.length_append, lead_len, List.length_cons] at ih ⊢
    rw [ih, Nat.succ_mul, Nat.add_comm]
theorem leadsL_step (cs hs : List (List UInt8)) (k : Nat) (h : k < hs.length) : leadsL cs (hs.take k) ++ leadL hs[k] cs = leadsL cs (hs.take (k + 1)) := by
  unfold leadsL
  rw [List.take_succ_eq_append_getElem h, List.flatMap_append]
  simp
theorem leadsL_rows {N : Nat} (cs : List (List UInt8)) {hs : List (List UInt8)} (h : ∀ x ∈ hs, IsRow x ∧ x.length = N) : ∀ x ∈ leadsL cs hs, IsRow x ∧ x.length = N := by
  intro x hx
  simp only [leadsL, List.mem_flatMap] at hx
  obtain ⟨r, hr, hx⟩ := hx
  have h1 := h r hr
  have h2 := lead_rows cs h1.1 x hx
  exact ⟨h2.1, h2.2.trans h1.2⟩
theorem leadRows_any (N : Nat) (nm r : List UInt8) (st : Int) (cs : List (List UInt8)) (A : Option Addr) (n c : Nat) (w : World) (hrow : IsRow r) (hN : r.length = N) (hr : Rd w A n (strV cs)) (hn : n ≤ 1048576) (hs : ∀ x ∈ cs, okChange (N : Int) x = true) :
    Calls Try.prog 90 #[.agg #[.string (bs nm), .int .i64 st, .slice A n c], .string (bs r)] w (OneS w (leadL r cs)) := by
  have hl := hid (show cs.length = n by have := hr.1; rw [strV_len] at this; exact this)
  have HU := fun (w0 : World) (rd : Rd w0 A n (strV cs)) => hid (rowsUnder_any A n c cs r w0 rd hn hrow (by rw [hN]; exact hs))
  have RS := hid hr
  clear hr hs
  have q2 : (w.alloc (.cells #[.string (bs nm), .int .i64 st, .slice A n c] 28)).drew.cell? ⟨w.heap.size, 2, none⟩ = some (.slice A n c) := (Blk.new w 28 #[.string (bs nm), .int .i64 st, .slice A n c]).cell 2
  have hB : w.heap.size < (w.alloc (.cells #[.string (bs nm), .int .i64 st, .slice A n c] 28)).drew.heap.size := by simp
  have i0 : (0 : Int) ≤ (n : Int) := Int.natCast_nonneg n
  go_enter Try.func90, Try.ntmps90
  go_wp2_with fail
  go_region_held3 (fun w' => w'.cell? ⟨w.heap.size, 2, none⟩ = some (.slice A n c)) (first | exact q2 | exact (b1.cell (p := ⟨w.heap.size, 2, none⟩) hB).trans q2)
    (first | (go_at_call 110; refine (HU _ ((RS.out.alloc _).drewN 1)).out.mono ?_; rintro e w1 ⟨v1, rfl, o1, b1⟩; rw [scan_len, hl.out] at o1; obtain ⟨A1, c1, rfl, hc1, _⟩ := own_shape o1; have j2 := Int.ofNat_le.2 (Nat.le_of_succ_le hc1)))
  have HT := hid (own_take o1 (k := n) (by omega) (by omega))
  have HB := hid ((((Below.refl w.heap.size w).alloc (Nat.le_refl _) (.cells #[.string (bs nm), .int .i64 st, .slice A n c] 28)).drew).trans (b1.mono (by simp)))
  have HE : strV (leadL r cs) = (strV (scanL r cs)).take n := by rw [← strV_take, ← hl.out]; rfl
  have HEE := hid HE
  clear o1 b1 q2 hB j2 HE
  go_wp2
  go_ret
  refine ⟨_, rfl, ?_, HB.out⟩
  rw [lead_len, hl.out, HEE.out]
  exact own_mono HT.out (by simp)
theorem l11Lead_any (N : Nat) (nm r : List UInt8) (st : Int) (cs : List (List UInt8)) (A : Option Addr) (n c : Nat) (w : World) (hrow : IsRow r) (hN : r.length = N) (hr : Rd w A n (strV cs)) (hn : n ≤ 1048576) (hs : ∀ x ∈ cs, okChange (N : Int) x = true) :
    Calls Try.prog 85 #[.agg #[.string (bs nm), .int .i64 st, .slice A n c], .string (bs r)] w (OneS w (leadL r cs)) := by
  have hl := hid (show cs.length = n by have := hr.1; rw [strV_len] at this; exact this)
  have HU := fun (w0 : World) (rd : Rd w0 A n (strV cs)) => hid (l4Lead_any A n c cs r w0 rd hn hrow (by rw [hN]; exact hs))
  have RS := hid hr
  clear hr hs
  have q2 := (Blk.new w 28 #[.string (bs nm), .int .i64 st, .slice A n c]).cell 2
  simp only [List.getElem?_toArray, List.getElem?_cons_zero, List.getElem?_cons_succ] at q2
  have B2 : Below w.heap.size w (w.alloc (.cells #[.string (bs nm), .int .i64 st, .slice A n c] 28)) := (Below.refl _ _).alloc (Nat.le_refl _) _
  have HB2 := hid B2
  have R2 := hid (RS.out.below B2)
  have hw2 := B2.size
  go_enter Try.func85, Try.ntmps85
  go_wp2_with fail
  refine (HU _ R2.out).out.mono ?_
  rintro e w1 ⟨v1, rfl, o1, b1⟩
  obtain ⟨A1, c1, rfl, _⟩ := own_shape o1
  have HO := hid o1
  have HB := hid (HB2.out.trans (b1.mono hw2))
  clear o1 b1 q2
  go_wp2
  go_ret
  exact ⟨_, rfl, by rw [lead_len]; exact own_mono HO.out hw2, HB.out⟩
theorem leadsFrom_any (N : Nat) (nm : List UInt8) (st : Int) (cs hs : List (List UInt8)) (A B : Option Addr) (n c m d : Nat) (w : World) (hr : Rd w A n (strV cs)) (hb : Rd w B m (strV hs)) (hn : n ≤ 1000) (hm : m ≤ 1000) (hc : ∀ x ∈ cs, okChange (N : Int) x = true) (hh : ∀ x ∈ hs, IsRow x ∧ x.length = N) :
    Calls Try.prog 62 #[.agg #[.string (bs nm), .int .i64 st, .slice A n c], .slice B m d] w (OneS w (leadsL cs hs)) := by
  have lc := hid (show cs.length = n by have := hr.1; rw [strV_len] at this; exact this)
  have lh := hid (show hs.length = m by have := hb.1; rw [strV_len] at this; exact this)
  have HL := fun r (h1 : IsRow r) (h2 : r.length = N) (w0 : World) (rd : Rd w0 A n (strV cs)) => hid (leadRows_any N nm r st cs A n c w0 h1 h2 rd (by omega) hc)
  have RS := hid hr
  have RB := hid hb
  have HH := hid hh
  clear hr hb hc hh
  have B2 : Below w.heap.size w (w.alloc (.cells #[.string (bs nm), .int .i64 st, .slice A n c] 28)) := (Below.refl _ _).alloc (Nat.le_refl _) _
  have X2 := Blk.new w 28 #[.string (bs nm), .int .i64 st, .slice A n c]
  have hlt2 : w.heap.size < (w.alloc (.cells #[.string (bs nm), .int .i64 st, .slice A n c] 28)).heap.size := by simp
  have HS : ∀ W', Below (w.alloc (.cells #[.string (bs nm), .int .i64 st, .slice A n c] 28)).heap.size (w.alloc (.cells #[.string (bs nm), .int .i64 st, .slice A n c] 28)) W' → W'.cell? ⟨w.heap.size, 0, none⟩ = some (.string (bs nm)) ∧ W'.cell? ⟨w.heap.size, 1, none⟩ = some (.int .i64 st) ∧ W'.cell? ⟨w.heap.size, 2, none⟩ = some (.slice A n c) := fun W' h => by
    have X := X2.below h hlt2
    exact ⟨X.cell 0, X.cell 1, X.cell 2⟩
  have HHS := hid HS
  have HB2 := hid B2
  have R2 := hid (RS.out.below B2)
  have RB2 := hid (RB.out.below B2)
  have hw2 := B2.size
  clear HS X2 B2
  go_enter Try.func62, Try.ntmps62
  go_wp2_with fail
  have HSZ := hid (alloc_size w (.cells #[.string (bs nm), .int .i64 st, .slice A n c] 28))
  generalize (w.alloc (.cells #[.string (bs nm), .int .i64 st, .slice A n c] 28)) = W2 at *
  go_loopg [5, 11] m (fun gk u v wr => ∃ k : Nat, k ≤ m ∧ gk = m - k ∧ v = .int .i64 k ∧ wr.ownsRow W2.heap.size 9 1 u (leadsL cs (hs.take k)).length (strV (leadsL cs (hs.take k))) ∧ Below W2.heap.size W2 wr)
  case atStart =>
    rw [← HSZ.out]
    exact ⟨0, by omega, by omega, rfl, own_of_blk (Blk.new _ _ #[]) (Nat.le_refl _) (by simp [maxLen]), (Below.refl _ _).alloc (Nat.le_refl _) _⟩
  case round =>
    obtain ⟨k, hk, rfl, rfl, ho, hb⟩ := hrel
    by_cases hlt : k < m
    · obtain ⟨b', o', rfl, hj', hc⟩ := (RB2.out.below hb).str hlt
      have h1 := HH.out _ (List.getElem_mem hj')
      have HLk := hid (HL hs[k] h1.1 h1.2)
      have hst := hid (leadsL_step cs hs k hj')
      have hk0 : (0 : Int) ≤ (k : Int) := by omega
      have hk1 : (k : Int) < (m : Int) := by omega
      have hll : (leadsL cs (hs.take k)).length ≤ 1000000 := by
        rw [leadsL_len, List.length_take, lc.out]
        exact Nat.le_trans (Nat.mul_le_mul (Nat.le_trans (Nat.min_le_left _ _) (show k ≤ 1000 by omega)) hn) (by omega)
      obtain ⟨X, hX⟩ : ∃ X, X = leadL hs[k] cs := ⟨_, rfl⟩
      have hxl : X.length = n := by rw [hX, lead_len, lc.out]
      rw [← hX] at HLk hst
      obtain ⟨q, hq⟩ : ∃ q, q = (leadsL cs (hs.take k)).length := ⟨_, rfl⟩
      have HLN := hid (show q + X.length = (leadsL cs (hs.take (k + 1))).length by rw [← hst.out, hq, List.length_append])
      rw [← hq] at ho hll
      have HO := hid ho
      have HB := hid hb
      have HBs := hb.size
      have hlim : q + X.length ≤ 1000000000000 := by omega
      obtain ⟨n0, n1, n2⟩ := HHS.out _ hb
      clear ho hb h1 hX hxl hq
      go_wp2_with fail
      refine (HLk.out _ (R2.out.below HB.out)).out.mono ?_
      rintro e w2 ⟨v2, rfl, o2, b2⟩
      obtain ⟨A2, c2, rfl, _, _, rd2, _⟩ := own_shape o2
      have HO2 := hid (own_below HO.out b2)
      have HB2' := hid (HB.out.trans (b2.mono HBs))
      have hs2 := b2.size
      have RD2 := hid rd2
      clear b2 o2 rd2 n0 n1 n2
      go_wp2_with (at_builtin; refine app_str _ (by rfl) _ _ (by rfl) W2.heap.size _ _ _ (by rfl) HO2.out A2 X.length c2 X (by rfl) RD2.out hlim (by omega) ?_; intro v5 w5 o5 g5)
      go_roundg (m - (k + 1))
      case measure => omega
      case rel =>
        rw [hst.out, HLN.out] at o5
        exact ⟨k + 1, by omega, rfl, by go_num, o5, HB2'.out.grown g5 (by omega) fun q hq => (HO2.out.lt q hq).1⟩
    · obtain rfl : k = m := by omega
      rw [List.take_of_length_le (by rw [lh.out]; omega)] at ho
      have HO := hid ho
      clear ho
      go_wp2
      go_ret
      exact ⟨_, rfl, own_mono HO.out hw2, HB2.out.trans (hb.mono hw2)⟩
end Go.Proofs.Ytiajeheonoebnaa
