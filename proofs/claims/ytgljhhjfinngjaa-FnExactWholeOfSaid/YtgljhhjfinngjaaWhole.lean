/- Contract of the reference's part repeated until rounds. No conditions beyond those stated. -/
import Derived.Test.YtgljhhjfinngjaaExpD
import Derived.Test.YtgljhhjfinngjaaShStr
set_option linter.unusedVariables false
set_option linter.unusedSimpArgs false
set_option maxRecDepth 100000
namespace Go.Proofs.Ytgljhhjfinngjaa
open Go.RowKit

theorem repL_succ (u : List UInt8) (n : Nat) : repL u n ++ u = repL u (n + 1) := by
  unfold repL
  rw [List.replicate_succ', List.flatten_append]; simp
theorem repL_len (u : List UInt8) (n : Nat) : (repL u n).length = n * u.length := by
  induction n with
  | zero => simp [repL]
  | succ n ih => rw [← repL_succ, List.length_append, ih, Nat.succ_mul]
theorem repL_all (p : UInt8 → Bool) (u : List UInt8) (h : u.all p = true) (n : Nat) : (repL u n).all p = true := by
  induction n with
  | zero => simp [repL]
  | succ n ih => rw [← repL_succ, List.all_append, ih, h]; rfl
theorem goodTouch_rep {u : List UInt8} (h : goodTouch u = true) {n : Nat} (hn : 1 ≤ n) : goodTouch (repL u n) = decide (n * u.length ≤ 60) := by
  have h1 := goodTouch_calls h
  have h2 : 1 ≤ u.length := by simp only [goodTouch, Bool.and_eq_true, decide_eq_true_eq] at h; omega
  have h3 : 1 ≤ n * u.length := Nat.le_trans h2 (Nat.le_mul_of_pos_left _ hn)
  simp only [goodTouch, repL_all _ _ h1, repL_len, h3, decide_true, Bool.true_and]
theorem l12Whole_any (N : Nat) (nm t : List UInt8) (ch : List (List UInt8)) (k : List UInt8 × List UInt8) (A : Option Addr) (n c : Nat) (w : World) (lo : 3 ≤ N) (hi : N ≤ 8) (hr : Rd w A n (strV ch)) (hn : n ≤ 1048576) (hcap : n ≤ c) (l1 : 1 ≤ ch.length) (hs : ∀ x ∈ ch, okChange (N : Int) x = true) (hb1 : okChange (N : Int) k.1 = true) (hb2 : okChange (N : Int) k.2 = true) (ht : t.length ≤ 1000) :
    Calls Try.prog 49 #[.agg #[.string (bs nm), .int .i64 N, .slice A n c], .agg #[.string (bs k.1), .string (bs k.2)], .string (bs t)] w fun e w' => e = .returned (.string (bs (repL t (ordL (headTo N ch k t t.length))))) ∧ Below w.heap.size w w' := by
  have G := fun (w0 : World) (rd : Rd w0 A n (strV ch)) => hid (l9End_any N nm t ch k A n c w0 lo hi rd hn hcap l1 hs hb1 hb2 ht)
  have hE := (headTo_row lo hi ch k t t.length).1
  have G2 := fun w0 => hid (l1Order_any (headTo N ch k t t.length) w0 hE)
  have hle := ord_le hE
  generalize headTo N ch k t t.length = E at *
  generalize ordL E = q at *
  have RS := hid hr
  obtain ⟨k1, k2⟩ := k
  clear hr hs hb1 hb2 hE
  go_enter Try.func49, Try.ntmps49
  go_wp2_with fail
  obtain ⟨B2, hsz, HC⟩ := box_mk w nm k1 k2 (N : Int) (.slice A n c)
  refine (G _ (RS.out.below B2)).out.mono ?_
  rintro e w1 ⟨rfl, b1⟩
  have HB := hid (B2.trans (b1.mono B2.size))
  clear b1 B2 hsz HC
  go_wp2_with fail
  refine (G2 _).out.mono ?_
  rintro e w2 ⟨rfl, rfl⟩
  go_wp2_with fail
  go_loopg [7, 8] q (fun gk u v wr => ∃ j : Nat, j ≤ q ∧ gk = j ∧ v = .int .i64 j ∧ u = .string (bs (repL t (q - j))) ∧ wr = w1)
  case atStart => exact ⟨q, Nat.le_refl _, rfl, rfl, by rw [Nat.sub_self]; rfl, rfl⟩
  case round =>
    obtain ⟨_, hj, rfl, rfl, rfl, rfl⟩ := hrel
    obtain ⟨j, rfl⟩ : ∃ j, j = gk := ⟨_, rfl⟩
    have hrl : (repL t (q - j)).length ≤ 1000000 := by
      rw [repL_len]
      exact Nat.le_trans (Nat.mul_le_mul (show q - j ≤ 840 by omega) ht) (by omega)
    by_cases h0 : 0 < j
    · have hji : (0 : Int) < (j : Int) := by omega
      have HST := hid (show repL t (q - j) ++ t = repL t (q - (j - 1)) by rw [repL_succ]; congr 1; omega)
      have hcs : ((j : Int) - 1) = ((j - 1 : Nat) : Int) := by omega
      have HCS := hid hcs
      clear hcs
      go_wp2
      go_roundg (j - 1)
      case measure => omega
      case rel => exact ⟨j - 1, by omega, rfl, by rw [← HCS.out], by rw [← HST.out], rfl⟩
    · have hji : ¬ (0 : Int) < (j : Int) := by omega
      obtain rfl : j = 0 := by omega
      go_wp2
      go_ret
      exact ⟨rfl, HB.out⟩
end Go.Proofs.Ytgljhhjfinngjaa
