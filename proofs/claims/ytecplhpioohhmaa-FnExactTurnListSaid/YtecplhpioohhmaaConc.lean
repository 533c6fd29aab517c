/- Contracts of slices.Grow and slices.Concat at strings, and of the rotation of a list in the program. No conditions beyond those stated. -/
import Derived.Test.YtecplhpioohhmaaApp
import Derived.Test.YtecplhpioohhmaaRowL
import Derived.Test.YtecplhpioohhmaaLeft
import Derived.Lib.AppendZerosOnto
set_option linter.unusedVariables false
set_option linter.unusedSimpArgs false
set_option maxRecDepth 100000
namespace Go.Proofs.Ytecplhpioohhmaa
open Go.RowKit

theorem own_zero {w : World} {base g : Nat} {e : TypeId} {cs : Array Value} (h : Blk w g e cs) (hb : base ≤ g) (hm : cs.size ≤ maxLen) : w.ownsRow base e 1 (.slice (some ⟨g, 0, none⟩) 0 cs.size) 0 [] :=
  ⟨by simp, .inr ⟨g, cs.size, cs, rfl, hb, h, Nat.zero_le _, hm, by simp, by simp⟩⟩
/-- append whose run is known, in a plain region. -/
theorem app_run {ops : Array Oper} {rest : List Oper} {o : Oper} {a : Act} {Q : Exit → Act → World → Prop} (w : World) (hgd : o.guard = none) (s x : Operand) (ts : Array TypeId)
    (ho : o.op = .call { callee := .builtin .append, args := #[s, x], argTypes := ts }) (u v r : Value) (w' : World) (hs : a.eval s = u) (hx : a.eval x = v)
    (hrun : (Builtin.append_ ts o.type #[u, v]).run Try.prog w = .ok r w') (h : wpList Try.prog ops Q rest (a.put o.dst r) w') : wpList Try.prog ops Q (o :: rest) a w := by
  refine wpList_plain hgd fun _ hK => ?_
  unfold Oper.wp execOp
  simp only [ho, resolve, invoke, builtin, Sem.run_bind, Sem.run_pure, Result.andThen_ok, List.map_toArray, List.map_cons, List.map_nil, hs, hx, hrun]
  exact hK _ _ h
theorem growS_nil (n : Nat) (w : World) (h0 : 0 < n) (hn : n ≤ 1000000) :
    Calls Try.prog 106 #[.slice none 0 0, .int .i64 n] w fun e w' => ∃ v, e = .returned v ∧ w'.ownsRow w.heap.size 9 1 v 0 [] ∧ Below w.heap.size w w' := by
  obtain ⟨i0, hi, hz0, hz1, hz2⟩ := info_parts infoStr
  have hold : (Builtin.firstCells i0.size 0 (.slice none 0 0)).run Try.prog w.drew = .ok ([] : List Value).toArray w.drew := by
    simp [Builtin.firstCells]
  have hap := Lib.run_append_grow_zeros (P := Try.prog) w 35 3 35 9 i0 _ .i64 .i64 Try.underlying35 Try.underlying3 hi hz0 none 0 0 [] hold n h0 (by omega) (by omega) (by omega) (by rw [hz2]; omega) (by rw [hz2]; exact growslice_fits (by omega) (by omega))
  obtain ⟨cap, cur, hcs, hcm, hap2⟩ : ∃ (cap : Nat) (cur : Array Value), cur.size = cap ∧ cap ≤ maxLen ∧ (Builtin.append_ #[35, 3] 35 #[.slice none 0 0, .int .i64 n]).run Try.prog w = .ok (.slice (some ⟨w.heap.size, 0, none⟩) n cap) (w.drew.alloc (.cells cur 9)) := by
    refine ⟨_, _, ?_, ?_, by rw [hap, Nat.zero_add]⟩
    · have := grownCap_ge w n 0 9
      simp only [Array.size_append, size_zeroCells, Nat.zero_add]
      simp [Value.cells]; omega
    · exact grownCap_le_maxLen _ _ _ _ (by unfold maxLen; omega)
  have HAP := hid hap2
  clear hap hold hi hz0 hz1 hz2 hap2
  have hi1 : ¬ (n : Int) < 0 := by omega
  have hi2 : (0 : Int) < (n : Int) := by omega
  go_enter Try.func106, Try.ntmps106
  go_wp2_with (at_builtin; refine app_run _ (by rfl) _ _ _ (by rfl) _ _ _ _ (by rfl) (by rfl) HAP.out ?_)
  go_ret
  subst hcs
  exact ⟨_, rfl, own_zero (Blk.new w.drew 9 cur) (Nat.le_refl _) hcm, ((Below.refl w.heap.size w).drew).alloc (Nat.le_refl _) _⟩
/-- The list behind the first n of two lists. -/
theorem strV_two (a b : List (List UInt8)) : strV (a ++ b) = strV a ++ strV b := by simp [strV]
set_option maxHeartbeats 1000000 in
theorem concat2_any (g n1 c1 n2 c2 : Nat) (A1 A2 : Option Addr) (l1 l2 : List (List UInt8)) (w : World) (h0 : w.cell? ⟨g, 0, none⟩ = some (.slice A1 n1 c1)) (h1 : w.cell? ⟨g, 1, none⟩ = some (.slice A2 n2 c2)) (r1 : Rd w A1 n1 (strV l1)) (r2 : Rd w A2 n2 (strV l2)) (hp : 0 < n1 + n2) (hn : n1 + n2 ≤ 1000000) :
    Calls Try.prog 93 #[.slice (some ⟨g, 0, none⟩) 2 2] w (OneS w (l1 ++ l2)) := by
  have e1 : l1.length = n1 := by have := r1.1; rw [strV_len] at this; exact this
  have e2 : l2.length = n2 := by have := r2.1; rw [strV_len] at this; exact this
  have HGr := hid (fun w0 => (show Calls Try.prog 106 #[.slice none 0 0, .int .i64 ((n1 : Int) + (n2 : Int))] w0 (fun e w' => ∃ v, e = .returned v ∧ w'.ownsRow w0.heap.size 9 1 v 0 [] ∧ Below w0.heap.size w0 w') by
    have h := growS_nil (n1 + n2) w0 hp hn
    rwa [Int.natCast_add] at h))
  have E1 := hid e1
  have E2 := hid e2
  have R1 := hid r1
  have R2 := hid r2
  have H0 := hid h0
  have H1 := hid h1
  clear e1 e2 r1 r2
  have j1 : ¬ (n1 : Int) < 0 := by omega
  have j2 : ¬ (n1 : Int) + (n2 : Int) < 0 := by omega
  go_enter Try.func93, Try.ntmps93
  go_wp2
  go_loopg [3, 11] 2 (fun gk u v wr => ∃ k : Nat, k ≤ 2 ∧ gk = 2 - k ∧ v = .int .i64 k ∧ u = .int .i64 (if k = 0 then 0 else if k = 1 then (n1 : Int) else ((n1 + n2 : Nat) : Int)) ∧ wr = w)
  case atStart => exact ⟨0, by omega, by omega, rfl, rfl, rfl⟩
  case round =>
    obtain ⟨k, hk, rfl, rfl, rfl, rfl⟩ := hrel
    have : k = 0 ∨ k = 1 ∨ k = 2 := by omega
    rcases this with rfl | rfl | rfl
    · simp only [if_true]
      go_wp2
      go_roundg 1
      case measure => omega
      case rel => exact ⟨1, by omega, rfl, by first | rfl | go_num, by first | rfl | go_num | simp, rfl⟩
    · simp only [show ¬ (1 : Nat) = 0 by decide, if_false, if_true]
      go_wp2
      go_roundg 0
      case measure => omega
      case rel => exact ⟨2, by omega, rfl, by first | rfl | go_num, by first | rfl | go_num | simp, rfl⟩
    · simp only [show ¬ (2 : Nat) = 0 by decide, show ¬ (2 : Nat) = 1 by decide, if_false]
      go_wp2_with fail
      obtain ⟨wz, hwz⟩ : ∃ wz, wz = wr := ⟨_, rfl⟩
      subst hwz
      refine (HGr.out _).mono ?_
      rintro e w1 ⟨v1, rfl, o1, b1⟩
      have OW1 := hid o1
      have HB1 := hid b1
      clear o1 b1
      go_wp2
      go_loopg [6, 27] 2 (fun gk u v w2 => ∃ (k n : Nat) (l : List (List UInt8)), k ≤ 2 ∧ gk = 2 - k ∧ v = .int .i64 k ∧ Hid (n = l.length ∧ n ≤ n1 + n2 ∧ (k = 0 → l = []) ∧ (k = 1 → l = l1) ∧ (k = 2 → l = l1 ++ l2)) ∧ w2.ownsRow wz.heap.size 9 1 u n (strV l) ∧ Below wz.heap.size wz w2)
      case atStart => exact ⟨0, 0, [], by omega, by omega, rfl, ⟨rfl, by omega, fun _ => rfl, by simp, by simp⟩, OW1.out, HB1.out⟩
      case round =>
        obtain ⟨k, n, l, hk, rfl, rfl, hl, ho, hb⟩ := hrel
        have : k = 0 ∨ k = 1 ∨ k = 2 := by omega
        rcases this with rfl | rfl | rfl
        · have c0 := (hb.cell (p := ⟨g, 0, none⟩) (World.block_lt_of_cell? wz _ H0.out)).trans H0.out
          have r1 := hid (R1.out.below hb)
          obtain ⟨a1, a2, a3, _, _⟩ := hl.out
          have hl0 := a3 rfl
          subst hl0
          have hn0 : n = 0 := a1
          subst hn0
          clear a1
          have HO := hid ho
          have HB := hid hb
          have hbs := hb.size
          clear ho hb hl a2 a3
          go_wp2_with (at_builtin; refine app_str _ (by rfl) _ _ (by rfl) wz.heap.size _ 0 [] (by rfl) HO.out A1 n1 c1 l1 (by rfl) r1.out (by omega) hbs ?_; intro v5 w5 o5 g5)
          go_roundg 1
          case measure => omega
          case rel =>
            rw [Nat.zero_add, List.nil_append] at o5
            exact ⟨1, n1, l1, by omega, rfl, by first | rfl | go_num, ⟨E1.out.symm, by omega, by simp, fun _ => rfl, by simp⟩, o5, HB.out.grown g5 hbs (fun q hq => (HO.out.lt q hq).1)⟩
        · have c1' := (hb.cell (p := ⟨g, 1, none⟩) (World.block_lt_of_cell? wz _ H1.out)).trans H1.out
          have r2 := hid (R2.out.below hb)
          obtain ⟨a1, a2, _, a3, _⟩ := hl.out
          have hl0 := a3 rfl
          subst hl0
          have hn1 : n = n1 := a1.trans E1.out
          subst hn1
          have HO := hid ho
          have HB := hid hb
          have hbs := hb.size
          clear ho hb hl a1 a2 a3
          go_wp2_with (at_builtin; refine app_str _ (by rfl) _ _ (by rfl) wz.heap.size _ n l (by rfl) HO.out A2 n2 c2 l2 (by rfl) r2.out (by omega) hbs ?_; intro v5 w5 o5 g5)
          go_roundg 0
          case measure => omega
          case rel => exact ⟨2, n + n2, l ++ l2, by omega, rfl, by first | rfl | go_num, ⟨by rw [List.length_append, E1.out, E2.out], by omega, by simp, by simp, fun _ => rfl⟩, o5, HB.out.grown g5 hbs (fun q hq => (HO.out.lt q hq).1)⟩
        · obtain ⟨a1, a2, _, _, a3⟩ := hl.out
          have hl0 := a3 rfl
          subst hl0
          subst a1
          have HO := hid ho
          clear ho hl a2 a3
          go_wp2
          go_ret
          exact ⟨_, rfl, HO.out, hb⟩
set_option maxHeartbeats 1000000 in
theorem rotated_any (A : Option Addr) (n c k : Nat) (l : List (List UInt8)) (w : World) (hr : Rd w A n (strV l)) (hk : k < n) (hc : n ≤ c) (hn : n ≤ 1000000) :
    Calls Try.prog 67 #[.slice A n c, .int .i64 k] w (OneS w (l.drop k ++ l.take k)) := by
  obtain ⟨b, o, rfl, hcell⟩ := hr.2 (by omega)
  have hl : l.length = n := by have := hr.1; rw [strV_len] at this; exact this
  have HR1 := hid (by have := hr.drop_ k (by omega); rw [← strV_drop] at this; exact this : Rd w (some ⟨b, o + k, none⟩) (n - k) (strV (l.drop k)))
  have HR2 := hid (by have := hr.take_ k (by omega); rw [← strV_take] at this; exact this : Rd w (some ⟨b, o, none⟩) k (strV (l.take k)))
  have HC := hid (fun g c1 c2 w0 h0 h1 r1 r2 => concat2_any g (n - k) c1 k c2 (some ⟨b, o + k, none⟩) (some ⟨b, o, none⟩) (l.drop k) (l.take k) w0 h0 h1 r1 r2 (by omega) (by omega))
  have HCd := hid (HC.out w.heap.size (c - k) c ((w.alloc (.cells #[.slice (some ⟨b, o + k, none⟩) (n - k) (c - k), .slice (some ⟨b, o, none⟩) k c] 35)).drew) ((Blk.new w 35 #[.slice (some ⟨b, o + k, none⟩) (n - k) (c - k), .slice (some ⟨b, o, none⟩) k c]).cell 0) ((Blk.new w 35 #[.slice (some ⟨b, o + k, none⟩) (n - k) (c - k), .slice (some ⟨b, o, none⟩) k c]).cell 1) (HR1.out.alloc _) (HR2.out.alloc _))
  have i0 : (0 : Int) ≤ (k : Int) := by omega
  have i1 : (k : Int) ≤ (n : Int) := by omega
  have i2 : ¬ c = k := by omega
  have i3 : (k : Int) ≤ (c : Int) := by omega
  clear hr hcell hl
  go_enter Try.func67, Try.ntmps67
  go_wp2_with fail
  go_region_held3 (fun w' => True) (exact trivial)
    (first | (go_at_call 93; refine HCd.out.mono ?_; rintro e wa ⟨va, rfl, oa, ba⟩; have Fa := ((Below.refl w.heap.size w).alloc (Nat.le_refl _) (.cells #[.slice (some ⟨b, o + k, none⟩) (n - k) (c - k), .slice (some ⟨b, o, none⟩) k c] 35)).drew.trans (ba.mono (by simp))))
  have HFa := hid Fa
  have OA := hid (own_mono oa (by simp) : wa.ownsRow w.heap.size 9 1 _ _ _)
  clear oa ba Fa
  go_wp2
  go_ret
  exact ⟨_, rfl, OA.out, HFa.out⟩
end Go.Proofs.Ytecplhpioohhmaa
