/- Contracts of the law package's helpers on slices of strings and of integers: equal, mark, held. No conditions beyond those stated. -/
import Derived.Test.YtnkpbahapaocbaaMem
set_option linter.unusedVariables false
set_option maxRecDepth 100000
set_option linter.unusedSimpArgs false
namespace Go.Proofs.Ytnkpbahapaocbaa
open Go.RowKit

theorem eqStringS_any (A B : Option Addr) (n m ca cb : Nat) (la lb : List (List UInt8)) (w : World) (ha : Rd w A n (strV la)) (hb : Rd w B m (strV lb)) (hn : n ≤ 140737488351232) (hm : m ≤ 140737488351232) :
    Calls Try.prog 32 #[.slice A n ca, .slice B m cb] w fun e w' => e = .returned (.bool (decide (la = lb))) ∧ ∃ k, w' = w.drewN k := by
  have e1 : la.length = n := by have := ha.1; rw [strV_len] at this; exact this
  have e2 : lb.length = m := by have := hb.1; rw [strV_len] at this; exact this
  have E1 := hid e1
  have E2 := hid e2
  clear e1 e2
  by_cases hnm : n = m
  · subst hnm
    go_enter Try.func32, Try.ntmps32
    go_wp2
    go_loopg [5] n (fun gk i wr => ∃ k q : Nat, k ≤ n ∧ gk = n - k ∧ i = .int .i64 k ∧ Hid (la.take k = lb.take k) ∧ wr = w.drewN q)
    case atStart => exact ⟨0, 0, by omega, by omega, rfl, rfl, rfl⟩
    case round =>
      obtain ⟨k, q, hk, rfl, rfl, hh, rfl⟩ := hrel
      by_cases hlt : k < n
      · obtain ⟨b1, o1, rfl, hl1, c1⟩ := ha.str hlt
        obtain ⟨b2, o2, rfl, hl2, c2⟩ := hb.str hlt
        have hi : (k : Int) < (n : Int) := by omega
        go_wp2
        go_quiet (fail)
        go_wp2
        · have h1 : (!la[k] == lb[k]) = true := by assumption
          go_ret
          have hr : la ≠ lb := by
            intro e
            subst e
            simp at h1
          exact ⟨ret_bool (by simp [hr]), _, World.drewN_drewN _ _ _⟩
        · have h1 : (!la[k] == lb[k]) = false := by assumption
          go_roundg (n - (k + 1))
          case measure => omega
          case rel => exact ⟨k + 1, _, by omega, rfl, by go_num, hid (by rw [List.take_succ_eq_append_getElem hl1, List.take_succ_eq_append_getElem hl2, hh.out, show la[k] = lb[k] by simpa using h1]), rfl⟩
      · go_wp2
        go_ret
        have ek : k = n := by omega
        subst ek
        have h2 := hh.out
        have E1 := E1.out
        have E2 := E2.out
        rw [List.take_of_length_le (by omega), List.take_of_length_le (by omega)] at h2
        exact ⟨ret_bool (by simp [h2]), _, rfl⟩
  · have hne : ((n : Int) != (m : Int)) = true := by simp; omega
    have hr : la ≠ lb := by
      intro e
      have := congrArg List.length e
      rw [E1.out, E2.out] at this
      exact hnm this
    go_enter Try.func32, Try.ntmps32
    go_wp2
    go_ret
    exact ⟨ret_bool (by simp [hr]), 0, rfl⟩
/-- The last decimal digit of k, as a byte. -/
def dig8 (k : Nat) : UInt8 := UInt8.ofNat (48 + k % 10)
theorem dig8_nat (k : Nat) : (dig8 k).toNat = 48 + k % 10 := by unfold dig8; rw [UInt8.toNat_ofNat']; omega
/-- The decimal digits of k ahead of acc, as the law package writes them (f: fuel). -/
def digM : Nat → Nat → List UInt8 → List UInt8
  | 0, _, acc => acc
  | f + 1, k, acc => if k = 0 then acc else digM f (k / 10) (dig8 k :: acc)
theorem digM_zero (f : Nat) (acc : List UInt8) : digM f 0 acc = acc := by cases f <;> simp [digM]
theorem digM_step (f k : Nat) (acc : List UInt8) (hk : 0 < k) (hf : k ≤ f) : ∃ g, k / 10 ≤ g ∧ digM f k acc = digM g (k / 10) (dig8 k :: acc) := by
  cases f with
  | zero => omega
  | succ f => exact ⟨f, by omega, by rw [digM, if_neg (by omega)]⟩
/-- The mark of number k. -/
def markL (k : Nat) : List UInt8 := if k = 0 then [109, 48] else 109 :: digM k k []
theorem markText_nat (k : Nat) (w : World) (hk : k ≤ 4194304) :
    Calls Try.prog 69 #[.int .i64 k] w fun e w' => e = .returned (.string (bs (markL k))) ∧ Below w.heap.size w w' := by
  by_cases h0 : k = 0
  · subst h0
    go_enter Try.func69, Try.ntmps69
    go_wp2
    go_ret
    exact ⟨rfl, Below.refl _ _⟩
  · have hr := hid (show markL k = 109 :: digM k k [] from if_neg h0)
    have h1 : 0 < k := by omega
    clear h0
    go_enter Try.func69, Try.ntmps69
    go_wp2
    go_loopg [0, 3] k (fun gk u v wr => ∃ (q : Nat) (acc : List UInt8), gk = q ∧ q + acc.length ≤ k ∧ u = .int .i64 q ∧ v = .string (bs acc) ∧ Hid (∃ f, q ≤ f ∧ digM f q acc = digM k k []) ∧ Below w.heap.size w wr)
    case atStart => exact ⟨k, [], rfl, by simp, rfl, rfl, ⟨k, Nat.le_refl _, rfl⟩, Below.refl _ _⟩
    case round =>
      obtain ⟨q, acc, rfl, hq, rfl, rfl, hh, hb⟩ := hrel
      by_cases hlt : 0 < gk
      · have hcv : (convert 102 9 (.slice (some ⟨wr.heap.size, 0, none⟩) 1 1)).run Try.prog (wr.alloc (.cells #[.int .u8 (48 + (gk : Int) % 10)] 5)) = .ok (.string (bs [dig8 gk])) (wr.alloc (.cells #[.int .u8 (48 + (gk : Int) % 10)] 5)) := by
          have e : (48 + (gk : Int) % 10) = (((dig8 gk).toNat : Nat) : Int) := by
            rw [dig8_nat]
            omega
          rw [e]
          refine run_convert_bytes_back _ _ _ _ ⟨wr.heap.size, 0, none⟩ 1 [dig8 gk] Try.underlying102 Try.underlying5 Try.underlying9 ?_
          intro j hj
          obtain rfl : j = 0 := by simpa using hj
          simp [Addr.add]
        obtain ⟨g, hg1, hg2⟩ : ∃ g, gk / 10 ≤ g ∧ digM g (gk / 10) (dig8 gk :: acc) = digM k k [] := by
          obtain ⟨f, hf, e⟩ := hh.out
          obtain ⟨g, h1, h2⟩ := digM_step f gk acc hlt hf
          exact ⟨g, h1, h2 ▸ e⟩
        have hg2 := hid hg2
        have hb' := hid hb
        clear hb
        go_wp2
        go_roundg (gk / 10)
        case measure => omega
        case rel =>
          refine ⟨gk / 10, dig8 gk :: acc, rfl, by simp; omega, by go_num, rfl, ⟨g, hg1, hg2.out⟩, hb'.out.alloc hb'.out.size _⟩
      · have e0 : gk = 0 := by omega
        subst e0
        go_wp2
        go_ret
        obtain ⟨f, _, hf⟩ := hh.out
        rw [digM_zero] at hf
        rw [hr.out, ← hf]
        exact ⟨rfl, hb⟩
theorem markText_any (n : Int) (k : Nat) (w : World) (hn : n = k) (hk : k ≤ 4194304) :
    Calls Try.prog 69 #[.int .i64 n] w fun e w' => e = .returned (.string (bs (markL k))) ∧ Below w.heap.size w w' := by
  subst hn; exact markText_nat k w hk
end Go.Proofs.Ytnkpbahapaocbaa
