/- The statement of FnExactCheckFound: called with any arguments that can be read as data, the law returns true, and every argument reads afterwards as it read before. No conditions. -/
import Derived.Test.YtnkpbahapaocbaaCutV
import Derived.Test.YtnkpbahapaocbaaHelp
import Derived.Test.YtnkpbahapaocbaaHelp2
import Derived.Test.YtnkpbahapaocbaaStrs
import Derived.Test.YtnkpbahapaocbaaCutL
import Derived.Deep.Slices
import Derived.Deep.Fields
import Derived.Test.YtnkpbahapaocbaaPMCheckFoundC
import Derived.Test.YtnkpbahapaocbaaMeth2
import Derived.Test.YtnkpbahapaocbaaRows
import Derived.ShutString
import Derived.ChangeOld
set_option linter.unusedVariables false
set_option linter.unusedSimpArgs false
set_option maxRecDepth 100000
namespace Go.Proofs.Ytnkpbahapaocbaa
open Go.RowKit

theorem eqCut_any (c : List UInt8 × Int × Int) (w : World) :
    Calls Try.prog 68 #[.agg #[.string (bs c.1), .int .i64 c.2.1, .int .i64 c.2.2], .agg #[.string (bs c.1), .int .i64 c.2.1, .int .i64 c.2.2]] w fun e w' => e = .returned (.bool true) ∧ Below w.heap.size w w' := by
  obtain ⟨s, y, z⟩ := c
  dsimp only
  go_enter Try.func68, Try.ntmps68
  go_wp2
  go_ret
  exact ⟨rfl, ((Below.refl _ _).alloc (Nat.le_refl _) _).alloc (by simp) _⟩
set_option maxHeartbeats 1000000 in
theorem eqCutS_any (A B : Option Addr) (n ca n2 cb : Nat) (l : List (List UInt8 × Int × Int)) (w : World) (ha : RdC w A n l) (hb : RdC w B n2 l) (hn : n ≤ 1048576) :
    Calls Try.prog 38 #[.slice A n ca, .slice B n2 cb] w fun e w' => e = .returned (.bool true) ∧ Below w.heap.size w w' := by
  have hnn : n2 = n := by rw [← ha.1, ← hb.1]
  subst hnn
  have HA := hid ha
  have HB := hid hb
  have HL := hid ha.1
  clear ha hb
  go_enter Try.func38, Try.ntmps38
  go_wp2
  go_loopg [5] n2 (fun gk u wr => ∃ k : Nat, k ≤ n2 ∧ gk = n2 - k ∧ u = .int .i64 k ∧ Below w.heap.size w wr)
  case atStart => exact ⟨0, by omega, by omega, rfl, Below.refl _ _⟩
  case round =>
    obtain ⟨k, hk, rfl, rfl, hb⟩ := hrel
    by_cases hlt : k < n2
    · have hkm : k < l.length := by have := HL.out; omega
      obtain ⟨b1, o1, rfl, x0, x1, x2⟩ := (HA.out.below hb).2 k hkm
      obtain ⟨b2, o2, rfl, y0, y1, y2⟩ := (HB.out.below hb).2 k hkm
      have HE := hid (fun w0 => eqCut_any l[k] w0)
      have HBB := hid hb
      have hbs := hb.size
      have hj0 : (0 : Int) ≤ (k : Int) := by omega
      have hj1 : (k : Int) < (n2 : Int) := by omega
      generalize l[k] = C at *
      obtain ⟨s, y, z⟩ := C
      dsimp only at *
      have HC9 := hid (show ∀ W', Below wr.heap.size wr W' → W'.cell? ⟨b1, o1 + k * 3, none⟩ = some (.string (bs s)) ∧ W'.cell? ⟨b1, o1 + k * 3 + 1, none⟩ = some (.int .i64 y) ∧ W'.cell? ⟨b1, o1 + k * 3 + 2, none⟩ = some (.int .i64 z) ∧ W'.cell? ⟨b2, o2 + k * 3, none⟩ = some (.string (bs s)) ∧ W'.cell? ⟨b2, o2 + k * 3 + 1, none⟩ = some (.int .i64 y) ∧ W'.cell? ⟨b2, o2 + k * 3 + 2, none⟩ = some (.int .i64 z) from fun W' h =>
        ⟨(h.cell (World.block_lt_of_cell? wr _ x0)).trans x0, (h.cell (World.block_lt_of_cell? wr _ x1)).trans x1, (h.cell (World.block_lt_of_cell? wr _ x2)).trans x2, (h.cell (World.block_lt_of_cell? wr _ y0)).trans y0, (h.cell (World.block_lt_of_cell? wr _ y1)).trans y1, (h.cell (World.block_lt_of_cell? wr _ y2)).trans y2⟩)
      clear hb x0 x1 x2 y0 y1 y2
      obtain ⟨z0, z1, z2, z3, z4, z5⟩ := HC9.out _ (Below.refl _ _)
      go_wp2_with fail
      go_region_held3 (fun W' => W'.cell? ⟨b1, o1 + k * 3, none⟩ = some (.string (bs s)) ∧ W'.cell? ⟨b1, o1 + k * 3 + 1, none⟩ = some (.int .i64 y) ∧ W'.cell? ⟨b1, o1 + k * 3 + 2, none⟩ = some (.int .i64 z) ∧ W'.cell? ⟨b2, o2 + k * 3, none⟩ = some (.string (bs s)) ∧ W'.cell? ⟨b2, o2 + k * 3 + 1, none⟩ = some (.int .i64 y) ∧ W'.cell? ⟨b2, o2 + k * 3 + 2, none⟩ = some (.int .i64 z))
        (first | exact HC9.out _ (Below.refl _ _) | exact HC9.out _ (Below.refl _ _).drew | exact HC9.out _ Fa)
        (first | (go_at_call 68; refine (HE.out _).mono ?_; rintro e wa ⟨rfl, ba⟩; have Fa := (Below.refl wr.heap.size wr).drew.trans (ba.mono (Nat.le_refl _))))
      have HFa := hid (HBB.out.trans (Fa.mono hbs))
      clear ba Fa z0 z1 z2 z3 z4 z5
      go_wp2
      go_roundg (n2 - (k + 1))
      case measure => omega
      case rel => exact ⟨k + 1, by omega, rfl, by go_num, HFa.out⟩
    · go_wp2
      go_ret
      exact ⟨rfl, hb⟩
/-- The cuts that markCutS leaves. -/
def marksC (k n : Nat) : List (List UInt8 × Int × Int) := (List.range n).map fun i => (markL (k + 3 * i), ((k + 3 * i + 1 : Nat) : Int), ((k + 3 * i + 2 : Nat) : Int))
theorem marksC_len (k n : Nat) : (marksC k n).length = n := by simp [marksC]
theorem marksC_step (k j : Nat) (l : List (List UInt8 × Int × Int)) (h : j < l.length) :
    (((cutV (marksC k j ++ l.drop j)).set (j * 3) (.string (bs (markL (k + 3 * j))))).set (j * 3 + 1) (.int .i64 ((k + 3 * j + 1 : Nat) : Int))).set (j * 3 + 2) (.int .i64 ((k + 3 * j + 2 : Nat) : Int)) = cutV (marksC k (j + 1) ++ l.drop (j + 1)) := by
  rw [List.drop_eq_getElem_cons h]
  have := cutV_set (marksC k j) (l.drop (j + 1)) l[j] (markL (k + 3 * j), ((k + 3 * j + 1 : Nat) : Int), ((k + 3 * j + 2 : Nat) : Int)) j (marksC_len k j)
  dsimp only at this
  rw [this]
  congr 1
  simp only [marksC, List.range_succ, List.map_append, List.map_cons, List.map_nil, List.append_assoc, List.cons_append, List.nil_append]
set_option maxHeartbeats 1000000 in
theorem markCutS_row (g base n cap k : Nat) (l : List (List UInt8 × Int × Int)) (w : World) (hown : w.ownsRow base 38 3 (.slice (some ⟨g, 0, none⟩) n cap) n (cutV l)) (hk : k + 3 * n ≤ 4194304) :
    Calls Try.prog 40 #[.slice (some ⟨g, 0, none⟩) n cap, .int .i64 (k : Int)] w fun e w' => e = .returned (.int .i64 ((k + 3 * n : Nat) : Int)) ∧ w'.ownsRow base 38 3 (.slice (some ⟨g, 0, none⟩) n cap) n (cutV (marksC k n)) ∧ w.grownBy w' (some g) := by
  have hl := hid (show l.length = n by have := hown.1; rw [cutV_len] at this; omega)
  go_enter Try.func40, Try.ntmps40
  go_wp2
  go_loopg [1, 5] n (fun gk u v wr => ∃ j : Nat, j ≤ n ∧ gk = n - j ∧ u = .int .i64 ((k + 3 * j : Nat) : Int) ∧ v = .int .i64 j ∧ wr.ownsRow base 38 3 (.slice (some ⟨g, 0, none⟩) n cap) n (cutV (marksC k j ++ l.drop j)) ∧ w.grownBy wr (some g))
  case atStart => exact ⟨0, by omega, by omega, by go_num, rfl, by simpa [marksC] using hown, World.grownBy.refl _ _⟩
  case round =>
    obtain ⟨j, hj, rfl, rfl, rfl, ho, hg⟩ := hrel
    by_cases hlt : j < n
    · have hlen : (marksC k j ++ l.drop j).length = n := by simp [marksC]; have := hl.out; omega
      have hj0 : (0 : Int) ≤ (j : Int) := by omega
      have hj1 : (j : Int) < (n : Int) := by omega
      have HT1 := hid (markText_any ((k + 3 * j : Nat) : Int) (k + 3 * j) wr rfl (by omega))
      have HG := hid hg
      have HO := hid ho
      obtain ⟨K, hK⟩ : ∃ K, K = k + 3 * j := ⟨_, rfl⟩
      have HKE := hid hK
      rw [← hK] at HT1 ⊢
      have hKb : K ≤ 4194304 := by omega
      have HLE := hid hlen
      clear hg ho hK hlen
      have hw1 : IntKind.i64.wrap ((K : Int) + 1) = (K : Int) + 1 := IntWalk.i64_in _ (by omega)
      have hw2 : IntKind.i64.wrap ((K : Int) + 1 + 1) = (K : Int) + 1 + 1 := IntWalk.i64_in _ (by omega)
      go_wp2_with fail
      refine HT1.out.mono ?_
      rintro e w1 ⟨rfl, b1⟩
      have ho1 := own_below HO.out b1
      obtain ⟨q0, q1, q2⟩ := cutV_at _ j (by rw [HLE.out]; exact hlt)
      have c0 := (ho1.cellAt (j * 3) (by omega)).trans q0
      have c1 := (ho1.cellAt (j * 3 + 1) (by omega)).trans q1
      have c2 := (ho1.cellAt (j * 3 + 2) (by omega)).trans q2
      have f0 := ho1.frozenAt (j * 3)
      have f1 := ho1.frozenAt (j * 3 + 1)
      have f2 := ho1.frozenAt (j * 3 + 2)
      have HO1 := hid ho1
      have HB1 := hid b1
      have HGL := hid ((ho1.lt g rfl).2)
      clear q0 q1 q2 ho1 b1
      go_wp2
      go_roundg (n - (j + 1))
      case measure => omega
      case rel =>
        have s1 := HO1.out.stored (j * 3) (.string (bs (markL K)))
        have s2 := s1.1.stored (j * 3 + 1) (.int .i64 ((K : Int) + 1))
        have s3 := s2.1.stored (j * 3 + 2) (.int .i64 ((K : Int) + 1 + 1))
        have h1 := s3.1
        have h2 := marksC_step k j l (by have := hl.out; omega)
        have hK := HKE.out
        rw [← hK] at h2
        have e1 : ((K + 1 : Nat) : Int) = (K : Int) + 1 := by omega
        have e2 : ((K + 2 : Nat) : Int) = (K : Int) + 1 + 1 := by omega
        rw [e1, e2] at h2
        rw [h2] at h1
        exact ⟨j + 1, by omega, rfl, by first | go_num | (congr 2; omega), by go_num, h1, HG.out.trans (((grown_below HB1.out s1.2).trans s2.2).trans s3.2)⟩
    · obtain rfl : j = n := by omega
      rw [List.drop_of_length_le (by rw [hl.out]; omega), List.append_nil] at ho
      have HO := hid ho
      clear ho
      go_wp2
      go_ret
      exact ⟨rfl, HO.out, hg⟩
theorem markCutS_nil (k : Nat) (w : World) (hk : k ≤ 4194304) :
    Calls Try.prog 40 #[.slice none 0 0, .int .i64 k] w fun e w' => e = .returned (.int .i64 (k : Int)) ∧ w = w' := by
  go_enter Try.func40, Try.ntmps40
  go_wp2
  go_rounds 1
  go_ret
  exact ⟨rfl, rfl⟩
theorem markCutS_any (base n : Nat) (k : Nat) (l : List (List UInt8 × Int × Int)) (v : Value) (w : World) (hown : w.ownsRow base 38 3 v n (cutV l)) (hk : k + 3 * n ≤ 4194304) :
    Calls Try.prog 40 #[v, .int .i64 (k : Int)] w fun e w' => e = .returned (.int .i64 ((k + 3 * n : Nat) : Int)) ∧ w'.ownsRow base 38 3 v n (cutV (marksC k n)) ∧ w.grownBy w' v.ownBlock := by
  rcases hown.2 with ⟨rfl, rfl⟩ | ⟨g, cap, cur, rfl, _⟩
  · refine (markCutS_nil k w (by omega)).mono ?_
    rintro e w' ⟨rfl, rfl⟩
    exact ⟨rfl, World.ownsRow_nil _ _ _ _, World.grownBy.refl _ _⟩
  · exact markCutS_row g base n cap k l w hown hk
set_option maxHeartbeats 1000000 in
theorem heldCutS_any (A : Option Addr) (n c : Nat) (k : Nat) (w : World) (h : RdC w A n (marksC k n)) (hk : k + 3 * n ≤ 4194304) :
    Calls Try.prog 42 #[.slice A n c, .int .i64 (k : Int)] w fun e w' => e = .returned (.int .i64 ((k + 3 * n : Nat) : Int)) ∧ Below w.heap.size w w' := by
  have HA := hid h
  clear h
  go_enter Try.func42, Try.ntmps42
  go_wp2
  go_loopg [1, 5] n (fun gk u v wr => ∃ j : Nat, j ≤ n ∧ gk = n - j ∧ u = .int .i64 ((k + 3 * j : Nat) : Int) ∧ v = .int .i64 j ∧ Below w.heap.size w wr)
  case atStart => exact ⟨0, by omega, by omega, by go_num, rfl, Below.refl _ _⟩
  case round =>
    obtain ⟨j, hj, rfl, rfl, rfl, hb⟩ := hrel
    by_cases hlt : j < n
    · have hjm : j < (marksC k n).length := by rw [marksC_len]; exact hlt
      obtain ⟨b, o, rfl, x0, x1, x2⟩ := (HA.out.below hb).2 j hjm
      have e0 : (marksC k n)[j] = (markL (k + 3 * j), ((k + 3 * j + 1 : Nat) : Int), ((k + 3 * j + 2 : Nat) : Int)) := by simp [marksC]
      rw [e0] at x0 x1 x2
      dsimp only at x0 x1 x2
      have HT1 := fun (w0 : World) => hid (markText_any ((k + 3 * j : Nat) : Int) (k + 3 * j) w0 rfl (by omega))
      obtain ⟨K, hK⟩ : ∃ K, K = k + 3 * j := ⟨_, rfl⟩
      have HKE := hid hK
      rw [← hK] at HT1 x0 x1 x2 ⊢
      have e1 : ((K + 1 : Nat) : Int) = (K : Int) + 1 := by omega
      have e2 : ((K + 2 : Nat) : Int) = (K : Int) + 1 + 1 := by omega
      rw [e1] at x1
      rw [e2] at x2
      have hKb : K ≤ 4194304 := by omega
      have HBB := hid hb
      have hbs := hb.size
      have hj0 : (0 : Int) ≤ (j : Int) := by omega
      have hj1 : (j : Int) < (n : Int) := by omega
      have hw1 : IntKind.i64.wrap ((K : Int) + 1) = (K : Int) + 1 := IntWalk.i64_in _ (by omega)
      have hw2 : IntKind.i64.wrap ((K : Int) + 1 + 1) = (K : Int) + 1 + 1 := IntWalk.i64_in _ (by omega)
      have HC9 := hid (show ∀ W', Below wr.heap.size wr W' → W'.cell? ⟨b, o + j * 3, none⟩ = some (.string (bs (markL K))) ∧ W'.cell? ⟨b, o + j * 3 + 1, none⟩ = some (.int .i64 ((K : Int) + 1)) ∧ W'.cell? ⟨b, o + j * 3 + 2, none⟩ = some (.int .i64 ((K : Int) + 1 + 1)) from fun W' h =>
        ⟨(h.cell (World.block_lt_of_cell? wr _ x0)).trans x0, (h.cell (World.block_lt_of_cell? wr _ x1)).trans x1, (h.cell (World.block_lt_of_cell? wr _ x2)).trans x2⟩)
      clear hb hK e0 e1 e2 x0 x1 x2
      obtain ⟨z0, z1, z2⟩ := HC9.out _ (Below.refl _ _)
      go_wp2_with fail
      go_region_held3 (fun W' => W'.cell? ⟨b, o + j * 3, none⟩ = some (.string (bs (markL K))))
        (first | exact (HC9.out _ (Below.refl _ _)).1 | exact (HC9.out _ (Below.refl _ _).drew).1 | exact (HC9.out _ Fa).1)
        (first | (go_at_call 69; refine (HT1 _).out.mono ?_; rintro e wa ⟨rfl, ba⟩; have Fa := (Below.refl wr.heap.size wr).drew.trans (ba.mono (Nat.le_refl _))))
      have HFa := hid (HBB.out.trans (Fa.mono hbs))
      obtain ⟨_, y1, y2⟩ := HC9.out _ Fa
      clear ba Fa z0 z1 z2
      go_wp2
      go_roundg (n - (j + 1))
      case measure => omega
      case rel =>
        have hK := HKE.out
        exact ⟨j + 1, by omega, rfl, by first | go_num | (congr 2; omega), by go_num, HFa.out⟩
    · obtain rfl : j = n := by omega
      go_wp2
      go_ret
      exact ⟨rfl, hb⟩

/-- The cells of what was found. -/
theorem eqFound_any (A A' B B' : Option Addr) (n n' m m' ca ca' cb cb' : Nat) (ok : Bool) (ts : List (List UInt8)) (cs : List (List UInt8 × Int × Int)) (w : World) (h1 : Rd w A n (strV ts)) (h2 : Rd w A' n' (strV ts)) (h3 : RdC w B m cs) (h4 : RdC w B' m' cs) (hn : n ≤ 1048576) (hm : m ≤ 1048576) :
    Calls Try.prog 17 #[.agg #[.slice A n ca, .slice B m cb, .bool ok], .agg #[.slice A' n' ca', .slice B' m' cb', .bool ok]] w fun e w' => e = .returned (.bool true) ∧ Below w.heap.size w w' := by
  have hnn : n' = n := by have h1 := h1.1; have h2 := h2.1; omega
  have hmm : m' = m := by rw [← h3.1, ← h4.1]
  subst hnn hmm
  have HE := hid (fun w0 (h1 : Rd w0 A n' (strV ts)) (h2 : Rd w0 A' n' (strV ts)) => (eqStringS_any A A' n' n' ca ca' ts ts w0 h1 h2 (by omega) (by omega)).mono (fun e w' h => (⟨h.1.trans (ret_bool (decide_eq_true rfl)), h.2⟩ : e = .returned (.bool true) ∧ ∃ k, w' = w0.drewN k)))
  have HC := hid (fun w0 (h1 : RdC w0 B m' cs) (h2 : RdC w0 B' m' cs) => eqCutS_any B B' m' cb m' cb' cs w0 h1 h2 hm)
  have R1 := hid h1
  have R2 := hid h2
  have R3 := hid h3
  have R4 := hid h4
  clear h1 h2 h3 h4
  go_enter Try.func17, Try.ntmps17
  go_wp2_with fail
  have Z2 := (Blk.new w 44 #[.slice A n' ca, .slice B m' cb, .bool ok]).alloc (.cells #[.slice A' n' ca', .slice B' m' cb', .bool ok] 44)
  have Z3 := Blk.new (w.alloc (.cells #[.slice A n' ca, .slice B m' cb, .bool ok] 44)) 44 #[.slice A' n' ca', .slice B' m' cb', .bool ok]
  have B2 : Below w.heap.size w ((w.alloc (.cells #[.slice A n' ca, .slice B m' cb, .bool ok] 44)).alloc (.cells #[.slice A' n' ca', .slice B' m' cb', .bool ok] 44)) := ((Below.refl _ _).alloc (Nat.le_refl _) _).alloc (by simp) _
  have hsz : ((w.alloc (.cells #[.slice A n' ca, .slice B m' cb, .bool ok] 44)).alloc (.cells #[.slice A' n' ca', .slice B' m' cb', .bool ok] 44)).heap.size = w.heap.size + 2 := by simp
  rw [show (w.alloc (.cells #[.slice A n' ca, .slice B m' cb, .bool ok] 44)).heap.size = w.heap.size + 1 by simp] at Z3
  generalize ((w.alloc (.cells #[.slice A n' ca, .slice B m' cb, .bool ok] 44)).alloc (.cells #[.slice A' n' ca', .slice B' m' cb', .bool ok] 44)) = W2 at *
  have HB2 := hid B2
  have HZ2 := hid Z2
  have HZ3 := hid Z3
  clear B2 Z2 Z3
  refine (HE.out _ (R1.out.below HB2.out) (R2.out.below HB2.out)).mono ?_
  rintro e w1 ⟨rfl, q, rfl⟩
  have F1 : Below W2.heap.size W2 (W2.drewN q) := below_drewN (Below.refl _ _) q
  have HF1 := hid F1
  have X2 := HZ2.out.below F1 (by omega)
  have X3 := HZ3.out.below F1 (by omega)
  generalize W2.drewN q = W3 at *
  have x0 := X2.cell 0
  have x1 := X2.cell 1
  have x2 := X2.cell 2
  have y0 := X3.cell 0
  have y1 := X3.cell 1
  have y2 := X3.cell 2
  simp only [List.getElem?_toArray, List.getElem?_cons_zero, List.getElem?_cons_succ] at x0 x1 x2 y0 y1 y2
  clear X2 X3 F1
  go_wp2_with fail
  have HB3 := hid (HB2.out.trans (HF1.out.mono HB2.out.size))
  refine (HC.out _ (R3.out.below HB3.out) (R4.out.below HB3.out)).mono ?_
  rintro e w4 ⟨rfl, b4⟩
  have HB4 := hid b4
  have k2 := (b4.cell (World.block_lt_of_cell? _ _ x2)).trans x2
  have k5 := (b4.cell (World.block_lt_of_cell? _ _ y2)).trans y2
  clear b4 x0 x1 x2 y0 y1 y2
  go_wp2
  go_ret
  exact ⟨rfl, HB3.out.trans (HB4.out.mono HB3.out.size)⟩
theorem markFound_any (base : Nat) (v1 v2 : Value) (n m : Nat) (ok : Bool) (ts : List (List UInt8)) (cs : List (List UInt8 × Int × Int)) (w : World) (o1 : w.ownsRow base 9 1 v1 n (strV ts)) (o2 : w.ownsRow base 38 3 v2 m (cutV cs)) (hne : ∀ q, v1.ownBlock = some q → v2.ownBlock = some q → False) (hn : n ≤ 1000000) (hm : m ≤ 1000000) (hb : base ≤ w.heap.size) :
    Calls Try.prog 19 #[.agg #[v1, v2, .bool ok], .int .i64 1] w fun e w' => e = .returned (.int .i64 ((1 + n + 3 * m : Nat) : Int)) ∧ w'.ownsRow base 9 1 v1 n (strV (marksS 1 n)) ∧ w'.ownsRow base 38 3 v2 m (cutV (marksC (1 + n) m)) ∧ Below base w w' ∧ (∀ (G : Nat) (t : TypeId) (cs : Array Value), Blk w G t cs → v1.ownBlock ≠ some G → v2.ownBlock ≠ some G → Blk w' G t cs) := by
  have HM := fun (w0 : World) (o0 : w0.ownsRow base 9 1 v1 n (strV ts)) => hid (markStringS_any base n 1 1 ts v1 w0 o0 rfl (by omega))
  have HC := fun (w0 : World) (o0 : w0.ownsRow base 38 3 v2 m (cutV cs)) => hid (markCutS_any base m (1 + n) cs v2 w0 o0 (by omega))
  have HO := hid o1
  have HP := hid o2
  have HN := hid hne
  obtain ⟨A, c, rfl, _⟩ := own_shape o1
  obtain ⟨B, d, rfl, _⟩ := own_shapeC o2
  have hl1 := hid (o1.lt)
  have hl2 := hid (o2.lt)
  clear o1 o2 hne
  go_enter Try.func19, Try.ntmps19
  go_wp2_with fail
  have Z2 := Blk.new w 44 #[.slice A n c, .slice B m d, .bool ok]
  have B2 : Below w.heap.size w (w.alloc (.cells #[.slice A n c, .slice B m d, .bool ok] 44)) := (Below.refl _ _).alloc (Nat.le_refl _) _
  have O2 := hid (HO.out.alloc (.cells #[.slice A n c, .slice B m d, .bool ok] 44))
  have P2 := hid (HP.out.alloc (.cells #[.slice A n c, .slice B m d, .bool ok] 44))
  generalize (w.alloc (.cells #[.slice A n c, .slice B m d, .bool ok] 44)) = W2 at *
  have HB2 := hid B2
  have HZ2 := hid Z2
  clear B2 Z2
  refine (HM _ O2.out).out.mono ?_
  rintro e w1 ⟨rfl, o1, g1⟩
  have HG1 := hid g1
  have HO1 := hid o1
  have hb1 := g1.block w.heap.size HZ2.out.lt (fun e => by have := (hl1.out _ e.symm).2; omega)
  have X2 : Blk w1 w.heap.size 44 #[.slice A n c, .slice B m d, .bool ok] := hb1.trans HZ2.out
  have x0 := X2.cell 0
  have x1 := X2.cell 1
  have x2 := X2.cell 2
  simp only [List.getElem?_toArray, List.getElem?_cons_zero, List.getElem?_cons_succ] at x0 x1 x2
  have P1 := hid (own_other P2.out g1 (fun q e1 e2 => by first | exact HN.out q e2 e1 | exact HN.out q e1 e2))
  clear g1 o1 hb1 X2
  go_wp2_with fail
  refine (HC _ P1.out).out.mono ?_
  rintro e w2 ⟨rfl, p2, g2⟩
  have HG2 := hid g2
  have HP2 := hid p2
  clear g2 p2 x0 x1 x2
  go_wp2
  go_ret
  refine ⟨rfl, own_other HO1.out HG2.out (fun q e1 e2 => by first | exact HN.out q e2 e1 | exact HN.out q e1 e2), HP2.out, ?_, ?_⟩
  rotate_left
  · intro g t cs h n1 n2
    have h1 := h.below HB2.out h.lt
    have h2 : Blk w1 g t cs := (HG1.out.block g h1.lt (fun e => n1 e.symm)).trans h1
    exact (HG2.out.block g h2.lt (fun e => n2 e.symm)).trans h2
  have s1 := HB2.out.size
  have s2 := HG1.out.size
  exact ((HB2.out.mono hb).trans (below_of_grown O2.out HG1.out (by omega))).trans (below_of_grown P1.out HG2.out (by omega))
theorem heldFound_any (A B : Option Addr) (n m ca cb : Nat) (ok : Bool) (w : World) (h1 : Rd w A n (strV (marksS 1 n))) (h2 : RdC w B m (marksC (1 + n) m)) (hn : n ≤ 1000000) (hm : m ≤ 1000000) :
    Calls Try.prog 20 #[.agg #[.slice A n ca, .slice B m cb, .bool ok], .int .i64 1] w fun e w' => e = .returned (.int .i64 ((1 + n + 3 * m : Nat) : Int)) ∧ Below w.heap.size w w' := by
  have HM := fun (w0 : World) (r0 : Rd w0 A n (strV (marksS 1 n))) => hid (heldStringS_any A n ca 1 1 w0 r0 rfl (by omega))
  have HC := fun (w0 : World) (r0 : RdC w0 B m (marksC (1 + n) m)) => hid (heldCutS_any B m cb (1 + n) w0 r0 (by omega))
  have R1 := hid h1
  have R2 := hid h2
  clear h1 h2
  go_enter Try.func20, Try.ntmps20
  go_wp2_with fail
  have Z2 := Blk.new w 44 #[.slice A n ca, .slice B m cb, .bool ok]
  have B2 : Below w.heap.size w (w.alloc (.cells #[.slice A n ca, .slice B m cb, .bool ok] 44)) := (Below.refl _ _).alloc (Nat.le_refl _) _
  have hsz : (w.alloc (.cells #[.slice A n ca, .slice B m cb, .bool ok] 44)).heap.size = w.heap.size + 1 := by simp
  generalize (w.alloc (.cells #[.slice A n ca, .slice B m cb, .bool ok] 44)) = W2 at *
  have HB2 := hid B2
  have HZ2 := hid Z2
  clear B2 Z2
  refine (HM _ (R1.out.below HB2.out)).out.mono ?_
  rintro e w1 ⟨rfl, b1⟩
  have HB1 := hid b1
  have X2 := HZ2.out.below b1 (by omega)
  have x0 := X2.cell 0
  have x1 := X2.cell 1
  have x2 := X2.cell 2
  simp only [List.getElem?_toArray, List.getElem?_cons_zero, List.getElem?_cons_succ] at x0 x1 x2
  clear b1 X2
  have hneg : ¬ ((1 + n : Nat) : Int) < 0 := by omega
  have HB3 := hid (HB2.out.trans (HB1.out.mono HB2.out.size))
  go_wp2_with fail
  refine (HC _ (R2.out.below HB3.out)).out.mono ?_
  rintro e w2 ⟨rfl, b2⟩
  have HB4 := hid b2
  have hneg2 : ¬ ((1 + n + 3 * m : Nat) : Int) < 0 := by omega
  clear b2 x0 x1 x2
  go_wp2
  go_ret
  exact ⟨rfl, HB3.out.trans (HB4.out.mono HB3.out.size)⟩
end Go.Proofs.Ytnkpbahapaocbaa

set_option linter.unusedVariables false
set_option linter.unusedSimpArgs false
set_option maxRecDepth 100000
namespace Go.Proofs.Ytnkpbahapaocbaa
open Go.RowKit Go.ChangeShapes Go.WideShapes Go.Joins
open Go.Deep (oneCellFields hone_of)

/-- The value is what was found. -/
def InFound (W : World) (v : Value) (ts : List (List UInt8)) (cs : List (List UInt8 × Int × Int)) (fin : Bool) : Prop := ∃ A n c B m d, v = .agg #[.slice A n c, .slice B m d, .bool fin] ∧ n ≤ maxLen ∧ m ≤ maxLen ∧ Rd W A n (strV ts) ∧ (∀ s ∈ ts, s.length ≤ maxLen) ∧ RdC W B m cs ∧ (∀ z ∈ cs, z.1.length ≤ maxLen)
theorem addr_addF (b o k : Nat) : (⟨b, o, none⟩ : Addr).add k = ⟨b, o + k, none⟩ := by unfold Addr.add; split <;> simp_all
theorem open_cells3F {H : Type} {enc : TypeId × Value → H} {P : Program} {w : World} {base : Nat} {spare : Nat → Bool} {held : Bool} {t : TypeId} {f0 f1 f2 : Field} {fuel : Nat} {c0 c1 c2 : Value} {x : DataW H × List MemPlace}
    (hs : P.underlying t = some (.struct #[f0, f1, f2])) (hone : oneCellFields P #[f0, f1, f2] = true) (hf : DataW.trod enc P w base spare held fuel t [c0, c1, c2] = some x) :
    ∃ (y0 y1 y2 : DataW H × List MemPlace) (n : Nat), DataW.trod enc P w base spare held n f0.type [c0] = some y0 ∧ DataW.trod enc P w base spare held n f1.type [c1] = some y1 ∧ DataW.trod enc P w base spare held n f2.type [c2] = some y2 := by
  obtain ⟨y0, y1, y2, n, _, _, h0, h1, h2⟩ := Deep.trod_struct3 hs hf
  obtain ⟨o0, k0⟩ := hone_of hone 0 f0 rfl
  obtain ⟨o1, k1⟩ := hone_of hone 1 f1 rfl
  obtain ⟨o2, k2⟩ := hone_of hone 2 f2 rfl
  exact ⟨y0, y1, y2, n, by simpa [o0, k0] using h0, by simpa [o1, k1] using h1, by simpa [o2, k2] using h2⟩
theorem inCuts_of_trod {H : Type} {enc : TypeId × Value → H} {W : World} {base : Nat} {spare : Nat → Bool} {held : Bool} {fuel : Nat} {v : Value} {x : DataW H × List MemPlace}
    (h : DataW.trod enc Try.prog W base spare held fuel 51 [v] = some x) : ∃ A n c cs, v = .slice A n c ∧ n ≤ maxLen ∧ RdC W A n cs ∧ ∀ z ∈ cs, z.1.length ≤ maxLen := by
  have ce : Try.prog.cellsOf 28 = 3 := by kernel_rfl
  rcases Deep.open_slice Try.underlying51 h with ⟨hcs, _⟩ | ⟨a, len0, cap0, m, n, D, Pl, hcs, _, hl, hm, hmm, _, hx⟩
  · injection hcs with hcs _
    subst hcs
    exact ⟨none, 0, 0, [], rfl, by unfold maxLen; omega, ⟨rfl, fun i hi => by simp at hi⟩, by simp⟩
  · injection hcs with hcs _
    subst hcs
    have hlm : len0 ≤ m := by rw [hmm]; split <;> omega
    obtain ⟨b, o, s⟩ := a
    have hsp : 0 < len0 → s = none := fun h0 => by
      obtain ⟨cs', h1, _⟩ := hx 0 (by omega)
      rw [ce] at h1
      obtain ⟨_, hlen, hcell⟩ := World.cells?_some h1
      have e0 := hcell 0 (by omega)
      match cs', hlen with
      | [c0, c1, c2], _ =>
        have := World.cell?_spot e0
        simpa [Addr.add] using this
    have each : ∀ i, i < len0 → ∃ z : List UInt8 × Int × Int, s = none ∧ W.cell? ⟨b, o + i * 3, none⟩ = some (.string (bs z.1)) ∧ W.cell? ⟨b, o + i * 3 + 1, none⟩ = some (.int .i64 z.2.1) ∧ W.cell? ⟨b, o + i * 3 + 2, none⟩ = some (.int .i64 z.2.2) ∧ z.1.length ≤ maxLen := by
      intro i hi
      obtain ⟨cs', h1, h2⟩ := hx i (by omega)
      rw [ce] at h1
      obtain ⟨_, hlen, hcell⟩ := World.cells?_some h1
      have e0 := hcell 0 (by omega)
      have e1 := hcell 1 (by omega)
      have e2 := hcell 2 (by omega)
      have hs := hsp (by omega)
      subst hs
      match cs', hlen with
      | [c0, c1, c2], _ =>
        rw [Deep.add_add, addr_addF] at e0 e1 e2
        obtain ⟨y0, y1, y2, k, t0, t1, t2⟩ := open_cells3F Try.underlying28 (by kernel_rfl) h2
        obtain ⟨s, q0, _, hs⟩ := DataW.trod_string Try.underlying9 t0
        obtain ⟨z1, q1, _, _⟩ := DataW.trod_int Try.underlying3 t1
        obtain ⟨z2, q2, _, _⟩ := DataW.trod_int Try.underlying3 t2
        injection q0 with q0 _
        injection q1 with q1 _
        injection q2 with q2 _
        subst q0 q1 q2
        obtain ⟨s, rfl⟩ := bs_surj s
        exact ⟨(s, z1, z2), rfl, by simpa using e0, by simpa [Nat.add_assoc] using e1, by simpa [Nat.add_assoc] using e2, by rw [← bs_size]; exact hs⟩
    obtain ⟨f, hfm⟩ := Deep.choose_lt each
    refine ⟨some ⟨b, o, s⟩, len0, cap0, (List.range len0).map f, rfl, by omega, ⟨by simp, fun i hi => ?_⟩, fun z hz => ?_⟩
    · simp only [List.length_map, List.length_range] at hi
      obtain ⟨hs, h0, h1, h2, h3⟩ := hfm i hi
      subst hs
      simp only [List.getElem_map, List.getElem_range]
      exact ⟨b, o, rfl, h0, h1, h2⟩
    · simp only [List.mem_map, List.mem_range] at hz
      obtain ⟨i, hi, rfl⟩ := hz
      exact (hfm i hi).2.2.2.2
theorem open_inFound {H : Type} {enc : TypeId × Value → H} {W : World} {base : Nat} {spare : Nat → Bool} {held : Bool} {r : Reach} {b0 : Nat} {v : Value} {d : DataW H} {ps : List MemPlace}
    (hval : Value.okWide Try.prog W r b0 53 v) (h : DataW.Trod enc Try.prog W base spare held 53 v d ps) : ∃ F : List (List UInt8) × List (List UInt8 × Int × Int) × Bool, InFound W v F.1 F.2.1 F.2.2 := by
  obtain ⟨v0, v1, v2, y0, y1, y2, n, rfl, _, _, t0, t1, t2⟩ := open_agg3 Try.underlying53 (by kernel_rfl) (by kernel_rfl) hval h
  obtain ⟨l, A, n, c, rfl, hn, hr, hs⟩ := inStrs_of_trod t0
  obtain ⟨B, m, d, cs, rfl, hm, hrc, hsc⟩ := inCuts_of_trod t1
  obtain ⟨fin, e2, _⟩ := DataW.trod_bool Try.underlying4 t2
  injection e2 with e2 _
  subst e2
  exact ⟨(l, cs, fin), A, n, c, B, m, d, rfl, hn, hm, hr, hs, hrc, hsc⟩
def totC : List (List UInt8 × Int × Int) → Nat
  | [] => 0
  | c :: l => c.1.length + totC l
theorem totC_app (a b : List (List UInt8 × Int × Int)) : totC (a ++ b) = totC a + totC b := by
  induction a with
  | nil => simp [totC]
  | cons m a ih => simp [totC, ih]; omega
theorem totC_take (l : List (List UInt8 × Int × Int)) (k : Nat) (h : k < l.length) : totC (l.take (k + 1)) = totC (l.take k) + l[k].1.length := by
  rw [List.take_succ_eq_append_getElem h, totC_app]; simp [totC]
theorem totC_mem {l : List (List UInt8 × Int × Int)} {m : List UInt8 × Int × Int} (h : m ∈ l) : m.1.length ≤ totC l := by
  induction l with
  | nil => cases h
  | cons t l ih =>
    simp only [List.mem_cons] at h
    simp only [totC]
    rcases h with rfl | h
    · omega
    · have := ih h; omega
/-- What szCutS answers. -/
def LeftC (w : World) (k : Nat) (left : Int) (e : Ending) (w' : World) : Prop := ∃ r : Int, e = .returned (.int .i64 r) ∧ Below w.heap.size w w' ∧ -1 ≤ r ∧ (0 ≤ r → r = left - k)
theorem szCutS_any (A : Option Addr) (n c : Nat) (l : List (List UInt8 × Int × Int)) (left : Int) (w : World) (hr : RdC w A n l) (hn : n ≤ maxLen) (hs : ∀ z ∈ l, z.1.length ≤ maxLen) (h0 : 0 ≤ left) (h1 : left ≤ 1048576) :
    Calls Try.prog 43 #[.slice A n c, .int .i64 left] w (LeftC w (n + totC l) left) := by
  have HR := hid hr
  have HL := hid hr.1
  have HS := hid hs
  have HZ := fun (z : List UInt8 × Int × Int) (hz : z.1.length ≤ maxLen) (a : Int) (ha : 0 ≤ a) (ha1 : a ≤ 1048576) (w0 : World) => hid (szCut_any z a w0 hz ha ha1)
  have hw := IntWalk.i64_in (left - (n : Int)) (by unfold maxLen at hn; omega)
  clear hr hs
  go_enter Try.func43, Try.ntmps43
  by_cases hlt0 : left - (n : Int) < 0
  · go_wp2
    go_ret
    exact ⟨-1, rfl, Below.refl _ _, by omega, by omega⟩
  · go_wp2
    go_loopg [1, 5] n (fun gk u v wr => ∃ j : Nat, j ≤ n ∧ gk = n - j ∧ u = .int .i64 (left - n - totC (l.take j)) ∧ 0 ≤ left - n - totC (l.take j) ∧ v = .int .i64 j ∧ Below w.heap.size w wr)
    case atStart => exact ⟨0, by omega, by omega, by simp [totC], by simp [totC]; omega, rfl, Below.refl _ _⟩
    case round =>
      obtain ⟨j, hj, rfl, rfl, hpos, rfl, hb⟩ := hrel
      by_cases hlt : j < n
      · have hjm : j < l.length := by have := HL.out; omega
        obtain ⟨b, o, rfl, c0, c1, c2⟩ := (HR.out.below hb).2 j hjm
        have hstep := hid (totC_take l j hjm)
        have hzl := HS.out _ (List.getElem_mem hjm)
        obtain ⟨K, hK⟩ : ∃ K, K = l[j] := ⟨_, rfl⟩
        rw [← hK] at c0 c1 c2 hzl hstep
        obtain ⟨cp, cy, cz⟩ := K
        dsimp only at c0 c1 c2 hzl hstep
        have hj0 : (0 : Int) ≤ (j : Int) := by omega
        have hj1 : (j : Int) < (n : Int) := by omega
        have HB := hid hb
        clear hb hK
        go_wp2_with fail
        refine (HZ (cp, cy, cz) hzl _ (by omega) (by omega) _).out.mono ?_
        rintro e w1 ⟨r, rfl, b1, hr1, hr2⟩
        have HB1 := hid (HB.out.trans (b1.mono HB.out.size))
        clear b1
        by_cases hneg : r < 0
        · go_wp2
          go_ret
          exact ⟨-1, rfl, HB1.out, by omega, by omega⟩
        · have hsum := hr2 (by omega)
          have HSm := hid (show r = left - n - totC (l.take (j + 1)) by have h2 := hstep.out; have h3 := hsum; (try dsimp only at h2); (try dsimp only at h3); omega)
          have hr0 : 0 ≤ r := by omega
          clear hsum hr2
          go_wp2
          go_roundg (n - (j + 1))
          case measure => omega
          case rel => exact ⟨j + 1, by omega, rfl, by rw [← HSm.out], by rw [← HSm.out]; exact hr0, by go_num, HB1.out⟩
      · obtain rfl : j = n := by omega
        rw [List.take_of_length_le (by rw [HL.out]; omega)] at hpos ⊢
        go_wp2
        go_ret
        exact ⟨_, rfl, hb, by omega, fun _ => by omega⟩
theorem szFound_any (A B : Option Addr) (n c m d : Nat) (fin : Bool) (ts : List (List UInt8)) (cs : List (List UInt8 × Int × Int)) (left : Int) (w : World) (h1 : Rd w A n (strV ts)) (h2 : RdC w B m cs) (hn : n ≤ maxLen) (hm : m ≤ maxLen) (hs : ∀ s ∈ ts, s.length ≤ maxLen) (hsc : ∀ z ∈ cs, z.1.length ≤ maxLen) (l0 : 0 ≤ left) (l1 : left ≤ 1048576) :
    Calls Try.prog 21 #[.agg #[.slice A n c, .slice B m d, .bool fin], .int .i64 left] w (LeftC w (n + totL ts + (m + totC cs)) left) := by
  have HS := fun (w0 : World) (r : Rd w0 A n (strV ts)) => hid (szStringS_any A n c ts left w0 r hn hs l0 l1)
  have HC := fun (w0 : World) (r : RdC w0 B m cs) (a : Int) (a0 : 0 ≤ a) (a1 : a ≤ 1048576) => hid (szCutS_any B m d cs a w0 r hm hsc a0 a1)
  have R1 := hid h1
  have R2 := hid h2
  clear h1 h2 hs hsc
  go_enter Try.func21, Try.ntmps21
  go_wp2_with fail
  have Z2 := Blk.new w 53 #[.slice A n c, .slice B m d, .bool fin]
  have B2 : Below w.heap.size w (w.alloc (.cells #[.slice A n c, .slice B m d, .bool fin] 53)) := (Below.refl _ _).alloc (Nat.le_refl _) _
  generalize (w.alloc (.cells #[.slice A n c, .slice B m d, .bool fin] 53)) = W2 at *
  have HB2 := hid B2
  have z1 := Z2.cell 1
  simp only [List.getElem?_toArray, List.getElem?_cons_zero, List.getElem?_cons_succ] at z1
  clear B2 Z2
  refine (HS _ (R1.out.below HB2.out)).out.mono ?_
  rintro e w1 ⟨r, rfl, rfl, hr1, hr2⟩
  by_cases hneg : r < 0
  · go_wp2
    go_ret
    exact ⟨-1, rfl, HB2.out, by omega, by omega⟩
  have HSUM := hid (hr2 (by omega))
  have hr0 : 0 ≤ r := by omega
  have hrl : r ≤ 1048576 := by have := HSUM.out; omega
  clear hr1 hr2
  go_wp2_with fail
  refine (HC _ (R2.out.below HB2.out) r hr0 hrl).out.mono ?_
  rintro e w3 ⟨r', rfl, b3, hr1', hr2'⟩
  have HB3 := hid (HB2.out.trans (b3.mono HB2.out.size))
  have HR2 := hid hr2'
  have HR1 := hid hr1'
  clear b3 z1 hr1' hr2'
  by_cases hneg' : r' < 0
  · go_wp2
    go_ret
    exact ⟨-1, rfl, HB3.out, by omega, by omega⟩
  · go_wp2
    go_ret
    exact ⟨r', rfl, HB3.out, HR1.out, fun h => by have h1 := HR2.out h; have h2 := HSUM.out; omega⟩
/-- Block g has N cells that can be stored to. -/
def RoomF (w : World) (g N : Nat) : Prop := g < w.heap.size ∧ ∀ j, j < N → (∃ u, w.cell? ⟨g, j, none⟩ = some u) ∧ w.frozen? ⟨g, j, none⟩ = false
theorem RoomF.below {w w' : World} {g N : Nat} (h : RoomF w g N) (hb : Below w.heap.size w w') : RoomF w' g N :=
  ⟨Nat.lt_of_lt_of_le h.1 hb.size, fun j hj => by
    obtain ⟨⟨u, hu⟩, hf⟩ := h.2 j hj
    have hl := World.block_lt_of_cell? w _ hu
    exact ⟨⟨u, (hb.cell hl).trans hu⟩, (hb.frozen hl).trans hf⟩⟩
theorem RoomF.set_ {w : World} {g N : Nat} (h : RoomF w g N) (p : Nat) (v : Value) : RoomF (w.setCell ⟨g, p, none⟩ v) g N :=
  ⟨by simp [World.setCell]; exact h.1, fun j hj => by
    obtain ⟨⟨u, hu⟩, hf⟩ := h.2 j hj
    refine ⟨?_, by rw [World.frozen?_setCell]; exact hf⟩
    by_cases e : p = j
    · subst e
      exact ⟨v, World.cell?_setCell_same _ _ _ hu⟩
    · exact ⟨u, (World.cell?_setCell_other _ _ _ _ (by intro e2; injection e2 with _ e3 _; exact e e3)).trans hu⟩⟩
/-- The first k elements of block g are the first k cuts. -/
def CutsTo (w : World) (g : Nat) (cs : List (List UInt8 × Int × Int)) (k : Nat) : Prop := ∀ (i : Nat) (h1 : i < k) (h2 : i < cs.length), w.cell? ⟨g, i * 3, none⟩ = some (.string (bs cs[i].1)) ∧ w.cell? ⟨g, i * 3 + 1, none⟩ = some (.int .i64 cs[i].2.1) ∧ w.cell? ⟨g, i * 3 + 2, none⟩ = some (.int .i64 cs[i].2.2)
theorem CutsTo.below {w w' : World} {g k : Nat} {cs : List (List UInt8 × Int × Int)} (h : CutsTo w g cs k) (hb : Below w.heap.size w w') : CutsTo w' g cs k := fun i h1 h2 => by
  obtain ⟨c0, c1, c2⟩ := h i h1 h2
  have hk := fun {p : Addr} {u : Value} (hc : w.cell? p = some u) => (hb.cell (World.block_lt_of_cell? w _ hc)).trans hc
  exact ⟨hk c0, hk c1, hk c2⟩
theorem CutsTo.push {w : World} {g k N : Nat} {cs : List (List UInt8 × Int × Int)} (h : CutsTo w g cs k) (hk : k < cs.length) (hr : RoomF w g N) (hN : k * 3 + 2 < N) :
    CutsTo (((w.setCell ⟨g, k * 3, none⟩ (.string (bs cs[k].1))).setCell ⟨g, k * 3 + 1, none⟩ (.int .i64 cs[k].2.1)).setCell ⟨g, k * 3 + 2, none⟩ (.int .i64 cs[k].2.2)) g cs (k + 1) := by
  have ne : ∀ {p q : Nat}, p ≠ q → (⟨g, p, none⟩ : Addr) ≠ ⟨g, q, none⟩ := fun h e => by injection e with _ e2 _; exact h e2
  obtain ⟨⟨u0, x0⟩, _⟩ := hr.2 (k * 3) (by omega)
  obtain ⟨⟨u1, x1⟩, _⟩ := hr.2 (k * 3 + 1) (by omega)
  obtain ⟨⟨u2, x2⟩, _⟩ := hr.2 (k * 3 + 2) (by omega)
  intro i h1 h2
  by_cases hi : i < k
  · obtain ⟨c0, c1, c2⟩ := h i hi h2
    refine ⟨?_, ?_, ?_⟩
    · rw [World.cell?_setCell_other _ _ _ _ (ne (by omega)), World.cell?_setCell_other _ _ _ _ (ne (by omega)), World.cell?_setCell_other _ _ _ _ (ne (by omega))]; exact c0
    · rw [World.cell?_setCell_other _ _ _ _ (ne (by omega)), World.cell?_setCell_other _ _ _ _ (ne (by omega)), World.cell?_setCell_other _ _ _ _ (ne (by omega))]; exact c1
    · rw [World.cell?_setCell_other _ _ _ _ (ne (by omega)), World.cell?_setCell_other _ _ _ _ (ne (by omega)), World.cell?_setCell_other _ _ _ _ (ne (by omega))]; exact c2
  · have e : i = k := by omega
    subst e
    refine ⟨?_, ?_, ?_⟩
    · rw [World.cell?_setCell_other _ _ _ _ (ne (by omega)), World.cell?_setCell_other _ _ _ _ (ne (by omega))]
      exact World.cell?_setCell_same _ _ _ x0
    · rw [World.cell?_setCell_other _ _ _ _ (ne (by omega))]
      exact World.cell?_setCell_same _ _ _ ((World.cell?_setCell_other _ _ _ _ (ne (by omega))).trans x1)
    · exact World.cell?_setCell_same _ _ _ ((World.cell?_setCell_other _ _ _ _ (ne (by omega))).trans ((World.cell?_setCell_other _ _ _ _ (ne (by omega))).trans x2))
/-- A slice of cuts comes back. -/
def OneC (w : World) (cs : List (List UInt8 × Int × Int)) (e : Ending) (w' : World) : Prop := ∃ g d, e = .returned (.slice (some ⟨g, 0, none⟩) cs.length d) ∧ w.heap.size ≤ g ∧ RdC w' (some ⟨g, 0, none⟩) cs.length cs ∧ Below w.heap.size w w'
theorem RdC.setFar {w : World} {g o n : Nat} {l : List (List UInt8 × Int × Int)} {p : Addr} (h : RdC w (some ⟨g, o, none⟩) n l) (hne : p.block ≠ g) (u : Value) : RdC (w.setCell p u) (some ⟨g, o, none⟩) n l := ⟨h.1, fun i hi => by
  obtain ⟨b', o', e, c0, c1, c2⟩ := h.2 i hi
  obtain ⟨rfl, rfl⟩ : g = b' ∧ o = o' := by injection e with e; injection e with e1 e2; exact ⟨e1, e2⟩
  have hk := fun {q : Nat} {v : Value} (hc : w.cell? ⟨g, q, none⟩ = some v) => (World.cell?_setCell_other w p ⟨g, q, none⟩ u (by intro e; exact hne (by rw [e]))).trans hc
  exact ⟨g, o, rfl, hk c0, hk c1, hk c2⟩⟩
set_option maxHeartbeats 1000000 in
theorem toCutS_any (A : Option Addr) (n c : Nat) (cs : List (List UInt8 × Int × Int)) (w : World) (hr : RdC w A n cs) (hn : n ≤ 1048576) :
    Calls Try.prog 50 #[.slice A n c] w (OneC w cs) := by
  obtain ⟨i0, hi, hz0, hz1, hz2⟩ := info_parts infoCut
  have HR := hid hr
  have HL := hid hr.1
  obtain ⟨C, hC, hmk⟩ : ∃ C : Array Value, C.size = n * 3 ∧ (Instr.makeSlice 42 (.int .i64 n) (.int .i64 n)).run Try.prog w = .ok (.slice (some ⟨w.heap.size, 0, none⟩) n n) (w.alloc (.cells C 38)) := by
    have := run_make (P := Try.prog) w 42 38 i0 _ Try.underlying42 hi hz0 .i64 .i64 n n (by omega) (by omega) (by rw [hz2]; omega) (by omega)
    refine ⟨_, ?_, by rw [this, Int.toNat_natCast]⟩
    simp [size_madeCells, hz1]
  have HC := hid hC
  clear hr hi hz0 hz1 hz2 hC
  go_enter Try.func50, Try.ntmps50
  go_wp2
  have hr0 := hid (show RoomF (w.alloc (.cells C 38)) w.heap.size (n * 3) from ⟨by simp, fun j hj => ⟨⟨C[j]'(by rw [HC.out]; exact hj), by rw [(Blk.new w 38 C).cell j]; exact Array.getElem?_eq_getElem _⟩, (Blk.new w 38 C).frozen j⟩⟩)
  go_loopg [4] n (fun gk u wr => ∃ (k : Nat), k ≤ n ∧ gk = n - k ∧ u = .int .i64 k ∧ RoomF wr w.heap.size (n * 3) ∧ CutsTo wr w.heap.size cs k ∧ Below w.heap.size w wr)
  case atStart => exact ⟨0, by omega, by omega, rfl, hr0.out, fun i h => by omega, (Below.refl _ _).alloc (Nat.le_refl _) _⟩
  case round =>
    obtain ⟨k, hk, rfl, rfl, hro, hms, hb⟩ := hrel
    by_cases hlt : k < n
    · have hkm : k < cs.length := by have := HL.out; omega
      obtain ⟨b, o, rfl, c0, c1, c2⟩ := (HR.out.below hb).2 k hkm
      have HPU := hid (fun (W : World) (h : CutsTo W w.heap.size cs k) (r : RoomF W w.heap.size (n * 3)) => h.push hkm r (by omega))
      obtain ⟨K, hK⟩ : ∃ K, K = cs[k] := ⟨_, rfl⟩
      rw [← hK] at c0 c1 c2 HPU
      obtain ⟨cp, cy, cz⟩ := K
      dsimp only at c0 c1 c2 HPU
      have HT := hid (fun w0 => toCut_any (cp, cy, cz) w0)
      have HRO := hid hro
      have HMS := hid hms
      have HB := hid hb
      have hj0 : (0 : Int) ≤ (k : Int) := by omega
      have hj1 : (k : Int) < (n : Int) := by omega
      clear hro hms hb hK
      go_wp2_with fail
      refine (HT.out _).mono ?_
      rintro e w1 ⟨rfl, b3⟩
      have hro1 := HRO.out.below b3
      obtain ⟨⟨u0, x0⟩, f0⟩ := hro1.2 (k * 3) (by omega)
      obtain ⟨⟨u1, x1⟩, f1⟩ := hro1.2 (k * 3 + 1) (by omega)
      obtain ⟨⟨u2, x2⟩, f2⟩ := hro1.2 (k * 3 + 2) (by omega)
      have HRO1 := hid hro1
      have HMS1 := hid (HMS.out.below b3)
      have HB1 := hid (HB.out.trans (b3.mono HB.out.size))
      clear b3 hro1
      go_wp2
      go_roundg (n - (k + 1))
      case measure => omega
      case rel => exact ⟨k + 1, by omega, rfl, by go_num, ((HRO1.out.set_ _ _).set_ _ _).set_ _ _, HPU.out _ HMS1.out HRO1.out, ((HB1.out.setCell (p := ⟨w.heap.size, _, none⟩) (Nat.le_refl _) _).setCell (p := ⟨w.heap.size, _, none⟩) (Nat.le_refl _) _).setCell (p := ⟨w.heap.size, _, none⟩) (Nat.le_refl _) _⟩
    · obtain rfl : k = n := by omega
      have HRC := hid (show RdC wr (some ⟨w.heap.size, 0, none⟩) cs.length cs from ⟨rfl, fun i h => by
        obtain ⟨c0, c1, c2⟩ := hms i (by have := HL.out; omega) h
        exact ⟨w.heap.size, 0, rfl, by rw [Nat.zero_add]; exact c0, by rw [Nat.zero_add]; exact c1, by rw [Nat.zero_add]; exact c2⟩⟩)
      have HL2 := hid HL.out.symm
      clear hms hro
      go_wp2
      go_ret
      exact ⟨_, _, by rw [HL.out]; rfl, Nat.le_refl _, HRC.out, hb⟩
/-- What was found comes back, copied. -/
def OneF (w : World) (ts : List (List UInt8)) (cs : List (List UInt8 × Int × Int)) (fin : Bool) (e : Ending) (w' : World) : Prop := ∃ A c B d, e = .returned (.agg #[.slice A ts.length c, .slice B cs.length d, .bool fin]) ∧ ts.length ≤ c ∧ Rd w' A ts.length (strV ts) ∧ RdC w' B cs.length cs ∧ Below w.heap.size w w'
set_option maxHeartbeats 1000000 in
theorem toFound_any (A B : Option Addr) (n c m d : Nat) (fin : Bool) (ts : List (List UInt8)) (cs : List (List UInt8 × Int × Int)) (w : World) (h1 : Rd w A n (strV ts)) (h2 : RdC w B m cs) (hn : n ≤ 1048576) (hm : m ≤ 1048576) :
    Calls Try.prog 23 #[.agg #[.slice A n c, .slice B m d, .bool fin]] w (OneF w ts cs fin) := by
  have HT := fun (w0 : World) (r : Rd w0 A n (strV ts)) => hid (toStringS_any A n c ts w0 r hn)
  have HC := fun (w0 : World) (r : RdC w0 B m cs) => hid (toCutS_any B m d cs w0 r hm)
  have R1 := hid h1
  have R2 := hid h2
  clear h1 h2
  go_enter Try.func23, Try.ntmps23
  go_wp2_with fail
  have M1 := Blk.new w 53 #[.slice A n c, .slice B m d, .bool fin]
  have M3 := (M1.alloc (.cells #[.slice none 0 0, .slice none 0 0, .bool false] 44)).alloc (.cells #[.slice none 0 0, .slice none 0 0, .bool false] 44)
  have K3 := (Blk.new (w.alloc (.cells #[.slice A n c, .slice B m d, .bool fin] 53)) 44 #[.slice none 0 0, .slice none 0 0, .bool false]).alloc (.cells #[.slice none 0 0, .slice none 0 0, .bool false] 44)
  have R4 := Blk.new ((w.alloc (.cells #[.slice A n c, .slice B m d, .bool fin] 53)).alloc (.cells #[.slice none 0 0, .slice none 0 0, .bool false] 44)) 44 #[.slice none 0 0, .slice none 0 0, .bool false]
  have B3 : Below w.heap.size w (((w.alloc (.cells #[.slice A n c, .slice B m d, .bool fin] 53)).alloc (.cells #[.slice none 0 0, .slice none 0 0, .bool false] 44)).alloc (.cells #[.slice none 0 0, .slice none 0 0, .bool false] 44)) := (((Below.refl _ _).alloc (Nat.le_refl _) _).alloc (by simp) _).alloc (by simp; omega) _
  have hsz : (((w.alloc (.cells #[.slice A n c, .slice B m d, .bool fin] 53)).alloc (.cells #[.slice none 0 0, .slice none 0 0, .bool false] 44)).alloc (.cells #[.slice none 0 0, .slice none 0 0, .bool false] 44)).heap.size = w.heap.size + 1 + 1 + 1 := by simp
  simp only [alloc_size] at K3 R4
  generalize (((w.alloc (.cells #[.slice A n c, .slice B m d, .bool fin] 53)).alloc (.cells #[.slice none 0 0, .slice none 0 0, .bool false] 44)).alloc (.cells #[.slice none 0 0, .slice none 0 0, .bool false] 44)) = W2 at *
  have HB2 := hid B3
  have HSZ := hid hsz
  refine (HT _ (R1.out.below B3)).out.mono ?_
  rintro e w1 ⟨v1, rfl, o1, b1⟩
  obtain ⟨A1, c1, rfl, hc1, y2, y3, y4⟩ := own_shape o1
  have HO1 := hid o1
  have HB1 := hid b1
  have hs1 := b1.size
  have N1 := M3.below b1 (by omega)
  have N2 := K3.below b1 (by omega)
  have N3 := R4.below b1 (by omega)
  have a1 := N1.cell 1
  have a2 := N1.cell 2
  have x0 := N3.cell 0
  have f0 := N3.frozen 0
  simp only [List.getElem?_toArray, List.getElem?_cons_zero, List.getElem?_cons_succ] at a1 a2 x0
  have E3 := hid (show Below w.heap.size w (w1.setCell ⟨w.heap.size + 1 + 1, 0, none⟩ (.slice A1 ts.length c1)) from (B3.trans (b1.mono B3.size)).setCell (p := ⟨w.heap.size + 1 + 1, 0, none⟩) (by dsimp only; omega) _)
  have P1 := hid (N1.far (p := ⟨w.heap.size + 1 + 1, 0, none⟩) (by dsimp only; omega) (.slice A1 ts.length c1))
  have P2 := hid (N2.far (p := ⟨w.heap.size + 1 + 1, 0, none⟩) (by dsimp only; omega) (.slice A1 ts.length c1))
  have P3 := hid (N3.set_ 0 (.slice A1 ts.length c1))
  have O3 := hid (own_set (p := ⟨w.heap.size + 1 + 1, 0, none⟩) (u := .slice A1 ts.length c1) o1 (by dsimp only; omega))
  have HS3 := hid (show W2.heap.size ≤ (w1.setCell ⟨w.heap.size + 1 + 1, 0, none⟩ (.slice A1 ts.length c1)).heap.size by simp [World.setCell]; exact hs1)
  clear M1 M3 K3 R4 B3 hsz o1 b1 N1 N2 N3 y2 y3 y4
  go_upto_region 3 with fail
  clear a1 a2 x0 f0
  generalize (w1.setCell ⟨w.heap.size + 1 + 1, 0, none⟩ (.slice A1 ts.length c1)) = W3 at *
  have a1 := P1.out.cell 1
  simp only [List.getElem?_toArray, List.getElem?_cons_zero, List.getElem?_cons_succ] at a1
  go_wp2_with fail
  refine (HC _ (R2.out.below E3.out)).out.mono ?_
  rintro e w4 ⟨g, d4, rfl, hg, rc4, b4⟩
  have l3 := HS3.out
  have lz := HSZ.out
  have N1 := P1.out.below b4 (by omega)
  have N2 := P2.out.below b4 (by omega)
  have N3 := P3.out.below b4 (by omega)
  have a2 := N1.cell 2
  have x0 := N3.cell 0
  have x1 := N3.cell 1
  have x2 := N3.cell 2
  have f1 := N3.frozen 1
  have f2 := N3.frozen 2
  have r0 := N2.cell 0
  have r1 := N2.cell 1
  have r2 := N2.cell 2
  have h0 := N2.frozen 0
  have h1 := N2.frozen 1
  have h2 := N2.frozen 2
  simp only [List.getElem?_toArray, List.getElem?_cons_zero, List.getElem?_cons_succ, List.setIfInBounds_toArray, List.set_cons_zero, List.set_cons_succ] at a2 x0 x1 x2 r0 r1 r2
  have O4 := hid (own_below O3.out b4)
  have RC4 := hid rc4
  have E4 := hid (E3.out.trans (b4.mono E3.out.size))
  clear a1 b4 rc4 N1 N2 N3
  go_wp2
  refine bodyPost_ret (v := .agg #[.slice A1 ts.length c1, .slice (some ⟨g, 0, none⟩) cs.length d4, .bool fin]) (by simp [results, Try.results23, go_sem, r0, r1, r2, x0, x1, x2]) rfl ⟨A1, c1, some ⟨g, 0, none⟩, d4, rfl, hc1, ?_, ?_, ?_⟩
  · have O5 := own_set (p := ⟨w.heap.size + 1 + 1, 2, none⟩) (u := .bool fin) (own_set (p := ⟨w.heap.size + 1 + 1, 1, none⟩) (u := .slice (some ⟨g, 0, none⟩) cs.length d4) O4.out (by dsimp only; omega)) (by dsimp only; omega)
    have O6 := own_set (p := ⟨w.heap.size + 1, 2, none⟩) (u := .bool fin) (own_set (p := ⟨w.heap.size + 1, 1, none⟩) (u := .slice (some ⟨g, 0, none⟩) cs.length d4) (own_set (p := ⟨w.heap.size + 1, 0, none⟩) (u := .slice A1 ts.length c1) O5 (by dsimp only; omega)) (by dsimp only; omega)) (by dsimp only; omega)
    obtain ⟨A', c', e', _, _, rd', _⟩ := own_shape O6
    obtain ⟨rfl, rfl⟩ : A1 = A' ∧ c1 = c' := by injection e' with e1 e2 e3; exact ⟨e1, e3⟩
    exact rd'
  · exact ((((RC4.out.setFar (p := ⟨w.heap.size + 1 + 1, 1, none⟩) (by dsimp only; omega) _).setFar (p := ⟨w.heap.size + 1 + 1, 2, none⟩) (by dsimp only; omega) _).setFar (p := ⟨w.heap.size + 1, 0, none⟩) (by dsimp only; omega) _).setFar (p := ⟨w.heap.size + 1, 1, none⟩) (by dsimp only; omega) _).setFar (p := ⟨w.heap.size + 1, 2, none⟩) (by dsimp only; omega) _
  · exact ((((E4.out.setCell (p := ⟨w.heap.size + 1 + 1, 1, none⟩) (by dsimp only; omega) _).setCell (p := ⟨w.heap.size + 1 + 1, 2, none⟩) (by dsimp only; omega) _).setCell (p := ⟨w.heap.size + 1, 0, none⟩) (by dsimp only; omega) _).setCell (p := ⟨w.heap.size + 1, 1, none⟩) (by dsimp only; omega) _).setCell (p := ⟨w.heap.size + 1, 2, none⟩) (by dsimp only; omega) _
end Go.Proofs.Ytnkpbahapaocbaa

set_option linter.unusedVariables false
set_option linter.unusedSimpArgs false
set_option maxRecDepth 100000
namespace Go.Proofs.Ytnkpbahapaocbaa
open Go.RowKit

set_option maxHeartbeats 4000000 in
theorem LawCheckFound.walk (v : Value) (m : Meth) (u : Value) (k : List UInt8 × List UInt8) (q : Int) (u2 : Value) (F : List (List UInt8) × List (List UInt8 × Int × Int) × Bool) (w : World) (hv : InMethod w v m) (hu : InCalls w u k) (wq : (Lit.int .i64 q).wf = true) (hf : InFound w u2 F.1 F.2.1 F.2.2) :
    Calls Try.prog 5 #[v, u, .int .i64 q, u2] w fun e w' => e = .returned (.bool true) ∧ Below w.heap.size w w' := by
  obtain ⟨nm, st, ch⟩ := m
  obtain ⟨k1, k2⟩ := k
  obtain ⟨ts, cs, fin⟩ := F
  have SZ := fun left w0 (hw0 : InMethod w0 v ⟨nm, st, ch⟩) h0 h1 => hid (szMethod_any ⟨nm, st, ch⟩ v left w0 hw0 h0 h1)
  have HIM := hid (fun (w0 : World) (hb : Below w.heap.size w w0) => inMethod_below hv hb)
  obtain ⟨_, rfl, hn, wst, A, n, c, rfl, hn2, hr, hs⟩ := hv
  obtain ⟨rfl, hk1, hk2⟩ := hu
  obtain ⟨TA, tn, tc, CA, cn, cc, rfl, htn, hcn, hrt, hst, hrc, hsc⟩ := hf
  have SX := fun left w0 (r1 : Rd w0 TA tn (strV ts)) (r2 : RdC w0 CA cn cs) h0 h1 => hid (szFound_any TA CA tn tc cn cc fin ts cs left w0 r1 r2 htn hcn hst hsc h0 h1)
  have SK := fun left w0 h0 h1 => hid (szCalls_any (k1, k2) left w0 hk1 hk2 h0 h1)
  dsimp only at *
  have hln : ch.length = n := by have := hr.1; rw [strV_len] at this; exact this
  have hlt : ts.length = tn := by have := hrt.1; rw [strV_len] at this; exact this
  have hlc : cs.length = cn := hrc.1
  have HR := hid hr
  have HS := hid hs
  have HRT := hid hrt
  have HRC := hid hrc
  clear hr hs hrt hrc hst hsc
  go_enter Try.func5, Try.ntmps5
  go_wp2_with fail
  obtain ⟨B2, hsz, HC⟩ := box_mkX 24 26 53 w nm k1 k2 st (.slice A n c) #[.slice TA tn tc, .slice CA cn cc, .bool fin]
  generalize (((w.alloc (.cells #[.string (bs nm), .int .i64 st, .slice A n c] 24)).alloc (.cells #[.string (bs k1), .string (bs k2)] 26)).alloc (.cells #[.slice TA tn tc, .slice CA cn cc, .bool fin] 53)) = W2 at *
  have HB2 := hid B2
  have HIM2 := hid (HIM.out W2 B2)
  have R2 := hid (HR.out.below B2)
  have RT2 := hid (HRT.out.below B2)
  have RC2 := hid (HRC.out.below B2)
  have hw2 : w.heap.size ≤ W2.heap.size := B2.size
  clear B2 hsz
  have HHS5 := hid (fun W' (h : Below W2.heap.size W2 W') => (show W'.cell? ⟨w.heap.size, 0, none⟩ = some (.string (bs nm)) ∧ W'.cell? ⟨w.heap.size, 1, none⟩ = some (.int .i64 st) ∧ W'.cell? ⟨w.heap.size, 2, none⟩ = some (.slice A n c) ∧ W'.cell? ⟨w.heap.size + 1, 0, none⟩ = some (.string (bs k1)) ∧ W'.cell? ⟨w.heap.size + 1, 1, none⟩ = some (.string (bs k2)) ∧ W'.cell? ⟨w.heap.size + 1 + 1, 0, none⟩ = some (.slice TA tn tc) ∧ W'.cell? ⟨w.heap.size + 1 + 1, 1, none⟩ = some (.slice CA cn cc) ∧ W'.cell? ⟨w.heap.size + 1 + 1, 2, none⟩ = some (.bool fin) from by
    obtain ⟨⟨X, Y⟩, Z⟩ := HC.out _ h
    exact ⟨X.cell 0, X.cell 1, X.cell 2, Y.cell 0, Y.cell 1, Z.cell 0, Z.cell 1, Z.cell 2⟩))
  refine (SZ _ _ HIM2.out (by decide) (by decide)).out.mono ?_
  rintro e w1 ⟨r, rfl, b1, hr1, hr2⟩
  have HB1 := hid b1
  have hs1 := b1.size
  obtain ⟨m0, m1, m2, q0, q1, d0, d1, d2⟩ := HHS5.out _ b1
  clear b1
  by_cases hneg : r < 0
  · go_wp2
    go_ret
    exact ⟨rfl, HB2.out.trans (HB1.out.mono hw2)⟩
  have hsum := hr2 (by omega)
  have r1 : r ≤ 1048576 := by omega
  have r0 : 0 ≤ r := by omega
  clear hr1 hr2
  have HSUM := hid hsum
  clear hsum
  go_wp2_with fail
  refine (SK _ _ r0 r1).out.mono ?_
  rintro e ws ⟨r', rfl, bs', hr1', hr2'⟩
  have HBs := hid (HB1.out.trans (bs'.mono hs1))
  clear m0 m1 m2 q0 q1 d0 d1 d2
  obtain ⟨m0, m1, m2, q0, q1, d0, d1, d2⟩ := HHS5.out _ HBs.out
  clear bs'
  by_cases hneg' : r' < 0
  · go_wp2
    go_ret
    exact ⟨rfl, HB2.out.trans (HBs.out.mono hw2)⟩
  have hsum' := hr2' (by omega)
  have r1' : r' ≤ 1048576 := by have := hsum'; omega
  have r0' : 0 ≤ r' := by omega
  have HSUM' := hid hsum'
  clear hr1' hr2' hsum'
  go_wp2_with fail
  refine (SX _ _ (RT2.out.below HBs.out) (RC2.out.below HBs.out) r0' r1').out.mono ?_
  rintro e wt ⟨r'', rfl, bt, hr1'', hr2''⟩
  have HBt := hid (HBs.out.trans (bt.mono HBs.out.size))
  clear bt m0 m1 m2 q0 q1 d0 d1 d2
  by_cases hneg'' : r'' < 0
  · go_wp2
    go_ret
    exact ⟨rfl, HB2.out.trans (HBt.out.mono hw2)⟩
  have hsum'' := hr2'' (by omega)
  have hsum' := HSUM'.out
  have hsum := HSUM.out
  clear hr1'' hr2''
  (try dsimp only at hsum)
  (try dsimp only at hsum')
  (try dsimp only at hsum'')
  have htn1 : tn ≤ 1048576 := by omega
  have hcn1 : cn ≤ 1048576 := by omega
  have HCL := hid (show ∀ c ∈ cs, c.1.length ≤ 1048576 from fun z hz => by have := totC_mem hz; omega)
  have HTL := hid (show ∀ t ∈ ts, t.length ≤ 1048576 from fun s h => by have := totL_mem h; omega)
  have OK : LawOk ⟨nm, st, ch⟩ (k1, k2) := ⟨wst, by dsimp only; omega, by dsimp only; omega, fun s h => by have := totL_mem h; dsimp only at *; omega, by dsimp only; omega, by dsimp only; omega⟩
  have HOK := hid OK
  have hn1 : n ≤ 1048576 := by omega
  have hts1 : ts.length ≤ 1048576 := by omega
  have hcs1 : cs.length ≤ 1048576 := by omega
  clear OK hsum hsum' hsum'' HSUM HSUM' hln hlt hlc
  have TM := fun w0 (b0 : Below W2.heap.size W2 w0) => hid (toMethod_any ⟨nm, st, ch⟩ A n c w0 (R2.out.below b0) hn1)
  have TK := fun w0 => hid (toCalls_any (k1, k2) w0)
  have TC := fun w0 (b0 : Below W2.heap.size W2 w0) => hid (toFound_any TA CA tn tc cn cc fin ts cs w0 (RT2.out.below b0) (RC2.out.below b0) htn1 hcn1)
  have SP := fun A0 c0 A1 c1 A2 c2 w0 (rd : Rd w0 A0 ch.length (strV ch)) (hc0 : ch.length ≤ c0) (rt : Rd w0 A1 ts.length (strV ts)) (ht : ts.length ≤ c1) (rc : RdC w0 A2 cs.length cs) => hid (specCheck_law ⟨nm, st, ch⟩ (k1, k2) q ts cs fin A0 A1 A2 ch.length c0 ts.length c1 cs.length c2 w0 HOK.out rd hc0 rt rc hts1 hcs1 ht HCL.out HTL.out)
  have IM := fun A0 c0 A1 c1 A2 c2 w0 (rd : Rd w0 A0 ch.length (strV ch)) (hc0 : ch.length ≤ c0) (rt : Rd w0 A1 ts.length (strV ts)) (rc : RdC w0 A2 cs.length cs) => hid (implCheck_law ⟨nm, st, ch⟩ (k1, k2) q ts cs fin A0 A1 A2 ch.length c0 ts.length c1 cs.length c2 w0 HOK.out rd hc0 rt rc hts1 hcs1 HCL.out)
  generalize checkR ⟨nm, st, ch⟩ (k1, k2) q ts cs fin = RR at *
  obtain ⟨m0, m1, m2, q0, q1, d0, d1, d2⟩ := HHS5.out _ HBt.out
  go_wp2_with fail
  go_region_held3 (fun w' => w'.cell? ⟨w.heap.size, 0, none⟩ = some (.string (bs nm)) ∧ w'.cell? ⟨w.heap.size, 1, none⟩ = some (.int .i64 st) ∧ w'.cell? ⟨w.heap.size, 2, none⟩ = some (.slice A n c) ∧ w'.cell? ⟨w.heap.size + 1, 0, none⟩ = some (.string (bs k1)) ∧ w'.cell? ⟨w.heap.size + 1, 1, none⟩ = some (.string (bs k2)) ∧ w'.cell? ⟨w.heap.size + 1 + 1, 0, none⟩ = some (.slice TA tn tc) ∧ w'.cell? ⟨w.heap.size + 1 + 1, 1, none⟩ = some (.slice CA cn cc) ∧ w'.cell? ⟨w.heap.size + 1 + 1, 2, none⟩ = some (.bool fin))
    (first | exact HHS5.out _ HBt.out | exact HHS5.out _ HBt.out.drew | exact HHS5.out _ Ea | exact HHS5.out _ Eb | exact HHS5.out _ Ex | exact HHS5.out _ Ec)
    (first | (go_at_call 10; refine (TM _ HBt.out.drew).out.mono ?_; rintro e wa ⟨va, rfl, oa, ba⟩; obtain ⟨Aa, ca, rfl, hca, _, rda, _⟩ := own_shape oa; have Ea : Below W2.heap.size W2 wa := HBt.out.drew.trans (ba.mono HBt.out.size)) | (go_at_call 11; refine (TK _).out.mono ?_; rintro e wb ⟨rfl, bb⟩; have Eb := Ea.trans (bb.mono Ea.size); have rdb := rda.below bb) | (go_at_call 23; refine (TC _ Eb).out.mono ?_; rintro e wx ⟨At, ct, Bt, dt, rfl, hct, rtx, rcx, bx⟩; have Ex := Eb.trans (bx.mono Eb.size); have rdx := rdb.below bx) | (go_at_call 22; refine (SP _ _ _ _ _ _ _ rdx hca rtx hct rcx).out.mono ?_; rintro e wc ⟨rfl, bc⟩; have Ec := Ex.trans (bc.mono Ex.size)))
  have HEc := hid Ec
  clear m0 m1 m2 q0 q1 d0 d1 d2
  obtain ⟨m0, m1, m2, q0, q1, d0, d1, d2⟩ := HHS5.out _ Ec
  clear oa ba bb rda rdb bx rdx rtx rcx bc Ea Eb Ex Ec
  go_wp2_with fail
  refine (TM _ HEc.out).out.mono ?_
  rintro e wd ⟨vd, rfl, od, bd⟩
  obtain ⟨Ad, cd, rfl, hcd, _, rdd, _⟩ := own_shape od
  have Ed := HEc.out.trans (bd.mono HEc.out.size)
  have X5 := Blk.new wd 34 #[.string (bs nm), .int .i64 st, .slice Ad ch.length cd]
  have HE4 := hid (show Below W2.heap.size W2 (wd.alloc (.cells #[.string (bs nm), .int .i64 st, .slice Ad ch.length cd] 34)) from Ed.alloc Ed.size _)
  have HR4 := hid (show Rd (wd.alloc (.cells #[.string (bs nm), .int .i64 st, .slice Ad ch.length cd] 34)) Ad ch.length (strV ch) from rdd.alloc _)
  have hsz5 : wd.heap.size < (wd.alloc (.cells #[.string (bs nm), .int .i64 st, .slice Ad ch.length cd] 34)).heap.size := by simp
  clear m0 m1 m2 q0 q1 d0 d1 d2 od bd rdd Ed
  obtain ⟨m0, m1, m2, q0, q1, d0, d1, d2⟩ := HHS5.out _ HE4.out
  go_wp2_with fail
  generalize (wd.alloc (.cells #[.string (bs nm), .int .i64 st, .slice Ad ch.length cd] 34)) = W4 at *
  refine (TC _ HE4.out).out.mono ?_
  rintro e we ⟨Ae, ce, Be, de, rfl, hce, rte, rce, be⟩
  have Y5 := Blk.new we 44 #[.slice Ae ts.length ce, .slice Be cs.length de, .bool fin]
  have B45 := hid (show Below W4.heap.size W4 (we.alloc (.cells #[.slice Ae ts.length ce, .slice Be cs.length de, .bool fin] 44)) from be.alloc be.size _)
  have HR5 := hid (HR4.out.below B45.out)
  have HT5 := hid (show Rd (we.alloc (.cells #[.slice Ae ts.length ce, .slice Be cs.length de, .bool fin] 44)) Ae ts.length (strV ts) from rte.alloc _)
  have HC5 := hid (show RdC (we.alloc (.cells #[.slice Ae ts.length ce, .slice Be cs.length de, .bool fin] 44)) Be cs.length cs from rce.alloc _)
  have X6 := X5.below B45.out hsz5
  have hsz6 : we.heap.size < (we.alloc (.cells #[.slice Ae ts.length ce, .slice Be cs.length de, .bool fin] 44)).heap.size := by simp
  have hsz7 : wd.heap.size < (we.alloc (.cells #[.slice Ae ts.length ce, .slice Be cs.length de, .bool fin] 44)).heap.size := Nat.lt_of_lt_of_le hsz5 B45.out.size
  have HE5 := hid (HE4.out.trans (B45.out.mono HE4.out.size))
  clear m0 m1 m2 q0 q1 d0 d1 d2 X5 be rte rce
  go_wp2_with fail
  generalize (we.alloc (.cells #[.slice Ae ts.length ce, .slice Be cs.length de, .bool fin] 44)) = W5 at *
  have HHS8 := hid (fun W' (h : Below W5.heap.size W5 W') => (show W'.cell? ⟨w.heap.size, 0, none⟩ = some (.string (bs nm)) ∧ W'.cell? ⟨w.heap.size, 1, none⟩ = some (.int .i64 st) ∧ W'.cell? ⟨w.heap.size, 2, none⟩ = some (.slice A n c) ∧ W'.cell? ⟨w.heap.size + 1, 0, none⟩ = some (.string (bs k1)) ∧ W'.cell? ⟨w.heap.size + 1, 1, none⟩ = some (.string (bs k2)) ∧ W'.cell? ⟨w.heap.size + 1 + 1, 0, none⟩ = some (.slice TA tn tc) ∧ W'.cell? ⟨w.heap.size + 1 + 1, 1, none⟩ = some (.slice CA cn cc) ∧ W'.cell? ⟨w.heap.size + 1 + 1, 2, none⟩ = some (.bool fin) ∧ W'.cell? ⟨wd.heap.size, 0, none⟩ = some (.string (bs nm)) ∧ W'.cell? ⟨wd.heap.size, 1, none⟩ = some (.int .i64 st) ∧ W'.cell? ⟨wd.heap.size, 2, none⟩ = some (.slice Ad ch.length cd) ∧ W'.cell? ⟨we.heap.size, 0, none⟩ = some (.slice Ae ts.length ce) ∧ W'.cell? ⟨we.heap.size, 1, none⟩ = some (.slice Be cs.length de) ∧ W'.cell? ⟨we.heap.size, 2, none⟩ = some (.bool fin) from by
    obtain ⟨a0, a1, a2, a3, a4, a5, a6, a7⟩ := HHS5.out _ (HE5.out.trans (h.mono HE5.out.size))
    have X := X6.below h hsz7
    have Y := Y5.below h hsz6
    exact ⟨a0, a1, a2, a3, a4, a5, a6, a7, X.cell 0, X.cell 1, X.cell 2, Y.cell 0, Y.cell 1, Y.cell 2⟩))
  clear X6 Y5
  obtain ⟨m0, m1, m2, q0, q1, d0, d1, d2, x0, x1, x2, y0, y1, y2⟩ := HHS8.out W5 (Below.refl _ _)
  go_region_held3 (fun w' => w'.cell? ⟨w.heap.size, 0, none⟩ = some (.string (bs nm)) ∧ w'.cell? ⟨w.heap.size, 1, none⟩ = some (.int .i64 st) ∧ w'.cell? ⟨w.heap.size, 2, none⟩ = some (.slice A n c) ∧ w'.cell? ⟨w.heap.size + 1, 0, none⟩ = some (.string (bs k1)) ∧ w'.cell? ⟨w.heap.size + 1, 1, none⟩ = some (.string (bs k2)) ∧ w'.cell? ⟨w.heap.size + 1 + 1, 0, none⟩ = some (.slice TA tn tc) ∧ w'.cell? ⟨w.heap.size + 1 + 1, 1, none⟩ = some (.slice CA cn cc) ∧ w'.cell? ⟨w.heap.size + 1 + 1, 2, none⟩ = some (.bool fin) ∧ w'.cell? ⟨wd.heap.size, 0, none⟩ = some (.string (bs nm)) ∧ w'.cell? ⟨wd.heap.size, 1, none⟩ = some (.int .i64 st) ∧ w'.cell? ⟨wd.heap.size, 2, none⟩ = some (.slice Ad ch.length cd) ∧ w'.cell? ⟨we.heap.size, 0, none⟩ = some (.slice Ae ts.length ce) ∧ w'.cell? ⟨we.heap.size, 1, none⟩ = some (.slice Be cs.length de) ∧ w'.cell? ⟨we.heap.size, 2, none⟩ = some (.bool fin))
    (first | exact HHS8.out _ (Below.refl _ _) | exact HHS8.out _ (Below.refl _ _).drew | exact HHS8.out _ Ef | exact HHS8.out _ Eg)
    (first | (go_at_call 11; refine (TK _).out.mono ?_; rintro e wf ⟨rfl, bf⟩; have Ef : Below W5.heap.size W5 wf := (Below.refl _ _).drew.trans bf) | (go_at_call 24; refine (IM _ _ _ _ _ _ _ (HR5.out.below Ef) hcd (HT5.out.below Ef) (HC5.out.below Ef)).out.mono ?_; rintro e wg ⟨rfl, bg⟩; have Eg := Ef.trans (bg.mono Ef.size)))
  have HEg := hid Eg
  clear bf bg Ef Eg
  clear m0 m1 m2 q0 q1 d0 d1 d2 x0 x1 x2 y0 y1 y2
  obtain ⟨m0, m1, m2, q0, q1, d0, d1, d2, x0, x1, x2, y0, y1, y2⟩ := HHS8.out _ HEg.out
  go_wp2_with fail
  go_region_held3 (fun w' => w'.cell? ⟨w.heap.size, 0, none⟩ = some (.string (bs nm)) ∧ w'.cell? ⟨w.heap.size, 1, none⟩ = some (.int .i64 st) ∧ w'.cell? ⟨w.heap.size, 2, none⟩ = some (.slice A n c) ∧ w'.cell? ⟨w.heap.size + 1, 0, none⟩ = some (.string (bs k1)) ∧ w'.cell? ⟨w.heap.size + 1, 1, none⟩ = some (.string (bs k2)) ∧ w'.cell? ⟨w.heap.size + 1 + 1, 0, none⟩ = some (.slice TA tn tc) ∧ w'.cell? ⟨w.heap.size + 1 + 1, 1, none⟩ = some (.slice CA cn cc) ∧ w'.cell? ⟨w.heap.size + 1 + 1, 2, none⟩ = some (.bool fin) ∧ w'.cell? ⟨wd.heap.size, 0, none⟩ = some (.string (bs nm)) ∧ w'.cell? ⟨wd.heap.size, 1, none⟩ = some (.int .i64 st) ∧ w'.cell? ⟨wd.heap.size, 2, none⟩ = some (.slice Ad ch.length cd) ∧ w'.cell? ⟨we.heap.size, 0, none⟩ = some (.slice Ae ts.length ce) ∧ w'.cell? ⟨we.heap.size, 1, none⟩ = some (.slice Be cs.length de) ∧ w'.cell? ⟨we.heap.size, 2, none⟩ = some (.bool fin))
    (first | exact HHS8.out _ HEg.out | exact HHS8.out _ HEg.out.drew | exact HHS8.out _ Eh | exact HHS8.out _ Ei)
    (first | (go_at_call 10; refine (TM _ (HE5.out.trans ((HEg.out.drew).mono HE5.out.size))).out.mono ?_; rintro e wh ⟨vh, rfl, oh, bh⟩; obtain ⟨Ah, ch', rfl, _, _, rdh, _⟩ := own_shape oh; have Eh := HEg.out.drew.trans (bh.mono HEg.out.size)) | (go_at_call 14; refine (eqMethod_any ⟨nm, st, ch⟩ Ad Ah ch.length cd ch.length ch' _ (HR5.out.below Eh) rdh (by have := HOK.out.2.2.1; dsimp only at this; omega)).mono ?_; rintro e wi ⟨rfl, bi⟩; have Ei := Eh.trans (bi.mono Eh.size)))
  have HEi := hid Ei
  clear oh bh rdh bi Eh Ei m0 m1 m2 q0 q1 d0 d1 d2 x0 x1 x2 y0 y1 y2
  obtain ⟨m0, m1, m2, q0, q1, d0, d1, d2, x0, x1, x2, y0, y1, y2⟩ := HHS8.out _ HEi.out
  go_wp2_with fail
  go_region_held3 (fun w' => w'.cell? ⟨w.heap.size, 0, none⟩ = some (.string (bs nm)) ∧ w'.cell? ⟨w.heap.size, 1, none⟩ = some (.int .i64 st) ∧ w'.cell? ⟨w.heap.size, 2, none⟩ = some (.slice A n c) ∧ w'.cell? ⟨w.heap.size + 1, 0, none⟩ = some (.string (bs k1)) ∧ w'.cell? ⟨w.heap.size + 1, 1, none⟩ = some (.string (bs k2)) ∧ w'.cell? ⟨w.heap.size + 1 + 1, 0, none⟩ = some (.slice TA tn tc) ∧ w'.cell? ⟨w.heap.size + 1 + 1, 1, none⟩ = some (.slice CA cn cc) ∧ w'.cell? ⟨w.heap.size + 1 + 1, 2, none⟩ = some (.bool fin) ∧ w'.cell? ⟨wd.heap.size, 0, none⟩ = some (.string (bs nm)) ∧ w'.cell? ⟨wd.heap.size, 1, none⟩ = some (.int .i64 st) ∧ w'.cell? ⟨wd.heap.size, 2, none⟩ = some (.slice Ad ch.length cd) ∧ w'.cell? ⟨we.heap.size, 0, none⟩ = some (.slice Ae ts.length ce) ∧ w'.cell? ⟨we.heap.size, 1, none⟩ = some (.slice Be cs.length de) ∧ w'.cell? ⟨we.heap.size, 2, none⟩ = some (.bool fin))
    (first | exact HHS8.out _ HEi.out | exact HHS8.out _ HEi.out.drew | exact HHS8.out _ Ej | exact HHS8.out _ El)
    (first | (go_at_call 23; refine (TC _ (HE5.out.trans ((HEi.out.drew).mono HE5.out.size))).out.mono ?_; rintro e wj ⟨Aj, cj, Bj, dj, rfl, hcj, rtj, rcj, bj⟩; have Ej := HEi.out.drew.trans (bj.mono HEi.out.size)) | (go_at_call 17; refine (eqFound_any Ae Aj Be Bj ts.length ts.length cs.length cs.length ce cj de dj fin ts cs _ (HT5.out.below Ej) rtj (HC5.out.below Ej) rcj hts1 hcs1).mono ?_; rintro e wl ⟨rfl, bl⟩; have El := Ej.trans (bl.mono Ej.size)))
  have HEl := hid El
  clear bj bl rtj rcj Ej El m0 m1 m2 q0 q1 d0 d1 d2 x0 x1 x2 y0 y1 y2
  go_wp2
  go_ret
  exact ⟨rfl, HB2.out.trans ((HE5.out.trans (HEl.out.mono HE5.out.size)).mono hw2)⟩
end Go.Proofs.Ytnkpbahapaocbaa

namespace Go.Proofs.Ytnkpbahapaocbaa.PCheckFound
open Go.ChangeShapes Go.WideShapes Go.ChangeAt Go.RowKit
open Go.ChangeMaps (open_string shut_string)
set_option linter.unusedVariables false

theorem own : ownKnob Try.prog.godebug = none := by kernel_rfl
theorem laidOut : laidOutB Try.prog = true := by kernel_rfl

set_option maxRecDepth 100000 in
theorem lifted (os : Os) (started : os.Started) (H : Type) (enc : TypeId × Value → H) :
    ReturnsInHanded {} Try.checked os 5 .any (Rows.fnExactCheckFoundSpec.pre6 enc Try.prog Try.f5 Rows.fnExactCheckFoundRow.domain false) (Rows.fnExactCheckFoundSpec.post enc Try.prog Try.f5 false true false false) := by
  refine returnsInHanded_of_change (C := Try.checked) own started (by kernel_rfl) Try.func5
    (ChangeSpec.witness6 (enc := enc) (C := Try.checked) false ⟨#[], #[.agg #[.string ByteArray.empty, .int .i64 0, .slice none 0 0], .agg #[.string ByteArray.empty, .string ByteArray.empty], .int .i64 0, .agg #[.slice none 0 0, .slice none 0 0, .bool false]], []⟩ 8 (by kernel_rfl) (by kernel_rfl) (by kernel_rfl) (by kernel_rfl)) ?_
  intro W base args ds gs before hval0 hW hcnd _
  have hval : ∀ (j : Nat) t v, Try.f5.params[j]? = some t → args[j]? = some v → Value.okWide Try.prog W .any base t v := hval0
  have hW' := hW
  obtain ⟨p, q, hA0, hV, rfl, hfz, hnd⟩ := hW
  have hA : DataW.TrodAll enc Try.prog W 0 (fun _ => true) true Try.f5.params.toList args.toList ds p := hA0
  rw [Try.params5] at hA hval
  obtain ⟨v0, vs0, d0, ds0, p0, q0, hargs, rfl, rfl, h0, r0⟩ := trodAll_cons hA
  obtain ⟨v1, vs1, d1, ds1, p1, q1, rfl, rfl, rfl, h1, r1⟩ := trodAll_cons r0
  obtain ⟨v2, vs2, d2, ds2, p2, q2, rfl, rfl, rfl, h2, r2⟩ := trodAll_cons r1
  obtain ⟨v3, vs3, d3, ds3, p3, q3, rfl, rfl, rfl, h3, r3⟩ := trodAll_cons r2
  obtain ⟨rfl, rfl, rfl⟩ := trodAll_nil r3
  obtain rfl : args = #[v0, v1, v2, v3] := by cases args; simp_all
  obtain ⟨rfl, rfl⟩ := trodVars_none hV
  have k0 := h0
  have lt0 : ∀ x ∈ p0, x.block < W.heap.size := by obtain ⟨m, hm⟩ := k0; exact DataW.trod_lt m _ _ _ hm
  obtain ⟨a0, w0⟩ := open_inMethod (hval 0 24 v0 rfl rfl) h0
  have k1 := h1
  have lt1 : ∀ x ∈ p1, x.block < W.heap.size := by obtain ⟨m, hm⟩ := k1; exact DataW.trod_lt m _ _ _ hm
  obtain ⟨a1, w1⟩ := open_inCalls (hval 1 26 v1 rfl rfl) h1
  obtain ⟨a2, rfl, rfl, rfl, w2⟩ := open_int Try.underlying3 (hval 2 3 v2 rfl rfl) h2
  have k3 := h3
  have lt3 : ∀ x ∈ p3, x.block < W.heap.size := by obtain ⟨m, hm⟩ := k3; exact DataW.trod_lt m _ _ _ hm
  obtain ⟨a3, w3⟩ := open_inFound (hval 3 53 v3 rfl rfl) h3
  clear hA0 hval0
  refine (LawCheckFound.walk v0 a0 v1 a1 a2 v3 a3 W w0 w1 w2 w3).mono fun e W' ⟨he, bel⟩ => ?_
  subst he
  exact ⟨_, rfl, _, _, _, [], _, [], hW', trodAll_mk1 (shut_bool Try.underlying4 _), (trodAll_cons_mk (Below.trod laidOut (by kernel_rfl) (of_decide_eq_true (by kernel_rfl)) k0 bel lt0) (trodAll_cons_mk (Below.trod laidOut (by kernel_rfl) (of_decide_eq_true (by kernel_rfl)) k1 bel lt1) (trodAll_cons_mk (shut_int Try.underlying3 w2) (trodAll_cons_mk (Below.trod laidOut (by kernel_rfl) (of_decide_eq_true (by kernel_rfl)) k3 bel lt3) trodAll_mk0)))), rfl, bel.frame _, fun h => by cases h⟩

theorem over : Rows.fnExactCheckFoundRow.holds Try.pinned (OpenSpec.ofChange Rows.fnExactCheckFoundSpec) :=
  OpenClaim.holds_of_wide 5 Try.f5 rfl rfl rfl rfl rfl rfl rfl ⟨rfl, rfl, rfl, rfl, rfl⟩ rfl rfl rfl rfl rfl (by kernel_rfl) Try.func5 (by kernel_rfl)
    (of_decide_eq_true (by kernel_rfl)) (by unfold Func.isWrapper; first | (rw [if_pos (by decide +kernel)]; kernel_rfl) | (rw [if_neg (by decide +kernel)]; exact ⟨rfl, rfl⟩))
    (fun os started H enc _ => lifted os started H enc)

theorem proved : Rows.FnExactCheckFoundSaid := over
#print axioms proved
end Go.Proofs.Ytnkpbahapaocbaa.PCheckFound
