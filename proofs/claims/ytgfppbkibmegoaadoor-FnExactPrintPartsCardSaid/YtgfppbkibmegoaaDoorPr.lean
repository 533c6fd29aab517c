/- Contracts of PrintParts, in the reference and in the program. No conditions beyond those stated. -/
import Derived.Test.YtgfppbkibmegoaaDoorSplit
import Derived.Test.YtgfppbkibmegoaaDoorShStr
import Derived.Test.YtgfppbkibmegoaaDoorShelf
set_option linter.unusedVariables false
set_option linter.unusedSimpArgs false
set_option maxRecDepth 100000
namespace Go.Proofs.YtgfppbkibmegoaaDoor
open Go.RowKit

/-- A digit's byte. -/
def dg (n : Nat) : UInt8 := UInt8.ofNat (48 + n)
theorem l1Num9_any (n : Nat) (w : World) (h : n ≤ 9) :
    Calls Tryd.prog 14 #[.int .i64 n] w fun e w' => e = .returned (.string (bs [dg n])) ∧ Below w.heap.size w w' := by
  have hu : (dg n).toNat = 48 + n := by rw [dg, UInt8.toNat_ofNat']; omega
  have i1 : (n : Int) < 10 := by omega
  have e8 : (48 + (n : Int)) = (((dg n).toNat : Nat) : Int) := by rw [hu]; omega
  have hcv : (convert 33 9 (.slice (some ⟨w.heap.size, 0, none⟩) 1 1)).run Tryd.prog (w.alloc (.cells #[.int .u8 (48 + (n : Int))] 5)) = .ok (.string (bs [dg n])) (w.alloc (.cells #[.int .u8 (48 + (n : Int))] 5)) := by
    rw [e8]
    refine run_convert_bytes_back _ _ _ _ ⟨w.heap.size, 0, none⟩ 1 [dg n] Tryd.underlying33 Tryd.underlying5 Tryd.underlying9 ?_
    intro j hj
    obtain rfl : j = 0 := by simpa using hj
    simp [Addr.add]
  clear hu e8
  go_enter Tryd.func14, Tryd.ntmps14
  go_wp2
  go_ret
  exact ⟨rfl, (Below.refl _ _).alloc (Nat.le_refl _) _⟩
theorem digits_one (n : Nat) (h : n ≤ 9) : Lib.decDigits n = [dg n] := by
  rw [Lib.decDigits, dif_pos (show n < 10 by omega)]; rfl
theorem decimal_any (n : Nat) (w : World) (h : n ≤ 9) :
    Calls Tryd.prog 10 #[.int .i64 n] w fun e w' => e = .returned (.string (bs [dg n])) ∧ w = w' := by
  have HI := hid (Tryd.strconv_Itoa_small n (by omega) w)
  rw [digits_one n h] at HI
  go_enter Tryd.func10, Tryd.ntmps10
  go_wp2_with fail
  refine HI.out.mono ?_
  rintro e w' ⟨rfl, hw⟩
  have HW := hid hw
  clear hw
  go_wp2
  go_ret
  exact ⟨rfl, by first | exact HW.out | exact HW.out.symm⟩
/-- A touch as a repeated part. -/
def printL (l : List UInt8) : List UInt8 := if 2 ≤ l.length / splitN l ∧ l.length / splitN l ≤ 9 then 40 :: (l.take (splitN l) ++ [41, dg (l.length / splitN l)]) else l
/-- What PrintParts answers. -/
def printR (l : List UInt8) : List UInt8 × Bool := if goodTouch l = true then (printL l, true) else ([], false)
theorem printR_yes (l : List UInt8) (h : goodTouch l = true) : printR l = (printL l, true) := if_pos h
theorem printR_bad (l : List UInt8) (h : goodTouch l = false) : printR l = ([], false) := if_neg (by simp [h])
theorem l10Print_any (l : List UInt8) (w : World) (hl : l.length ≤ 1048576) (hg : goodTouch l = true) :
    Calls Tryd.prog 7 #[.string (bs l)] w fun e w' => e = .returned (.string (bs (printL l))) ∧ Below w.heap.size w w' := by
  have HS := hid (fun w0 => specSplitParts_any l w0 hl)
  rw [splitR_yes l hg] at HS
  dsimp only at HS
  have HR := hid (show printL l = _ from rfl)
  obtain ⟨n, hn⟩ : ∃ n, n = l.length / splitN l := ⟨_, rfl⟩
  have hP : printL l = if 2 ≤ n ∧ n ≤ 9 then 40 :: (l.take (splitN l) ++ [41, dg n]) else l := by rw [hn]; rfl
  rw [← hn] at HS
  have hlen := (goodTouch_len60 hg).2
  have hnb : n ≤ 60 := by rw [hn]; exact Nat.le_trans (Nat.div_le_self _ _) hlen
  have hu : (l.take (splitN l)).length ≤ 60 := by rw [List.length_take]; omega
  generalize l.take (splitN l) = u at *
  have HP := hid hP
  clear hn hP hg HR
  by_cases h : 2 ≤ n ∧ n ≤ 9
  · have HP2 := hid (HP.out.trans (if_pos h))
    obtain ⟨h1, h2⟩ := h
    have i1 : (2 : Int) ≤ (n : Int) := by omega
    have i2 : (n : Int) ≤ 9 := by omega
    have HN := hid (fun w0 => l1Num9_any n w0 h2)
    clear h1 h2
    go_enter Tryd.func7, Tryd.ntmps7
    go_wp2_with fail
    refine (HS.out _).mono ?_
    rintro e w1 ⟨rfl, m, rfl⟩
    go_wp2_with fail
    refine (HN.out _).mono ?_
    rintro e w2 ⟨rfl, b2⟩
    have B2 := hid ((below_drewN (Below.refl w.heap.size w) m).trans b2)
    clear b2
    go_wp2
    go_ret
    exact ⟨ret_str (by first | (rw [HP2.out]; done) | (rw [HP2.out]; simp)), B2.out⟩
  · have HP2 := hid (HP.out.trans (if_neg h))
    by_cases h1 : 2 ≤ n
    · have i1 : (2 : Int) ≤ (n : Int) := by omega
      have i2 : ¬ (n : Int) ≤ 9 := by omega
      clear h h1
      go_enter Tryd.func7, Tryd.ntmps7
      go_wp2_with fail
      refine (HS.out _).mono ?_
      rintro e w1 ⟨rfl, m, rfl⟩
      go_wp2
      go_ret
      exact ⟨ret_str HP2.out.symm, below_drewN (Below.refl w.heap.size w) m⟩
    · have i1 : ¬ (2 : Int) ≤ (n : Int) := by omega
      clear h h1
      go_enter Tryd.func7, Tryd.ntmps7
      go_wp2_with fail
      refine (HS.out _).mono ?_
      rintro e w1 ⟨rfl, m, rfl⟩
      go_wp2
      go_ret
      exact ⟨ret_str HP2.out.symm, below_drewN (Below.refl w.heap.size w) m⟩
theorem specPrintParts_any (l : List UInt8) (w : World) (hl : l.length ≤ 1048576) :
    Calls Tryd.prog 4 #[.string (bs l)] w fun e w' => e = .returned (.tuple #[.string (bs (printR l).1), .bool (printR l).2]) ∧ Below w.heap.size w w' := by
  have HG := hid (fun w0 => l9Good_any l w0 (by omega))
  cases hg : goodTouch l
  · rw [hg] at HG
    have HR := hid (printR_bad l hg)
    clear hg
    go_enter Tryd.func4, Tryd.ntmps4
    go_wp2_with fail
    refine (HG.out _).mono ?_
    rintro e w1 ⟨rfl, rfl⟩
    go_wp2
    go_ret2
    rw [HR.out]
    exact ⟨rfl, Below.refl _ _⟩
  · rw [hg] at HG
    have HR := hid (printR_yes l hg)
    have HP := hid (fun w0 => l10Print_any l w0 hl hg)
    clear hg
    go_enter Tryd.func4, Tryd.ntmps4
    go_wp2_with fail
    refine (HG.out _).mono ?_
    rintro e w1 ⟨rfl, rfl⟩
    go_wp2_with fail
    refine (HP.out _).mono ?_
    rintro e w2 ⟨rfl, b2⟩
    have B2 := hid b2
    clear b2
    go_wp2
    go_ret2
    rw [HR.out]
    exact ⟨rfl, B2.out⟩
theorem implPrintParts_any (l : List UInt8) (w : World) (hl : l.length ≤ 1048576) :
    Calls Tryd.prog 5 #[.string (bs l)] w fun e w' => e = .returned (.tuple #[.string (bs (printR l).1), .bool (printR l).2]) ∧ Below w.heap.size w w' := by
  have HG := hid (fun w0 => implGoodTouch_any l w0 (by omega))
  cases hg : goodTouch l
  · rw [hg] at HG
    have HR := hid (printR_bad l hg)
    clear hg
    go_enter Tryd.func5, Tryd.ntmps5
    go_wp2_with fail
    refine (HG.out _).mono ?_
    rintro e w1 ⟨rfl, rfl⟩
    go_wp2
    go_ret2
    rw [HR.out]
    exact ⟨rfl, Below.refl _ _⟩
  · rw [hg] at HG
    have HR := hid (printR_yes l hg)
    have hlen := (goodTouch_len60 hg).2
    have h1 := (goodTouch_len60 hg).1
    have HS := hid (fun w0 => splitParts_any l w0 hlen h1)
    obtain ⟨n, hn⟩ : ∃ n, n = l.length / splitN l := ⟨_, rfl⟩
    have hP : printL l = if 2 ≤ n ∧ n ≤ 9 then 40 :: (l.take (splitN l) ++ [41, dg n]) else l := by rw [hn]; rfl
    rw [← hn] at HS
    have hnb : n ≤ 60 := by rw [hn]; exact Nat.le_trans (Nat.div_le_self _ _) hlen
    have hu : (l.take (splitN l)).length ≤ 60 := by rw [List.length_take]; omega
    generalize l.take (splitN l) = u at *
    have HP := hid hP
    clear hn hP hg
    by_cases h : 2 ≤ n ∧ n ≤ 9
    · have HP2 := hid (HP.out.trans (if_pos h))
      obtain ⟨h1, h2⟩ := h
      have i1 : ¬ (n : Int) < 2 := by omega
      have i2 : ¬ (9 : Int) < (n : Int) := by omega
      have HN := hid (fun w0 => decimal_any n w0 h2)
      clear h1 h2
      go_enter Tryd.func5, Tryd.ntmps5
      go_wp2_with fail
      refine (HG.out _).mono ?_
      rintro e w1 ⟨rfl, rfl⟩
      go_wp2_with fail
      refine (HS.out _).mono ?_
      rintro e w2 ⟨rfl, b2⟩
      have B2 := hid b2
      clear b2
      go_wp2_with fail
      refine (HN.out _).mono ?_
      rintro e w3 ⟨rfl, rfl⟩
      go_wp2
      go_ret2
      rw [HR.out, HP2.out]
      exact ⟨by first | rfl | simp, B2.out⟩
    · have HP2 := hid (HP.out.trans (if_neg h))
      by_cases h1 : 2 ≤ n
      · have i1 : ¬ (n : Int) < 2 := by omega
        have i2 : (9 : Int) < (n : Int) := by omega
        clear h h1
        go_enter Tryd.func5, Tryd.ntmps5
        go_wp2_with fail
        refine (HG.out _).mono ?_
        rintro e w1 ⟨rfl, rfl⟩
        go_wp2_with fail
        refine (HS.out _).mono ?_
        rintro e w2 ⟨rfl, b2⟩
        have B2 := hid b2
        clear b2
        go_wp2
        go_ret2
        rw [HR.out, HP2.out]
        exact ⟨rfl, B2.out⟩
      · have i1 : (n : Int) < 2 := by omega
        clear h h1
        go_enter Tryd.func5, Tryd.ntmps5
        go_wp2_with fail
        refine (HG.out _).mono ?_
        rintro e w1 ⟨rfl, rfl⟩
        go_wp2_with fail
        refine (HS.out _).mono ?_
        rintro e w2 ⟨rfl, b2⟩
        have B2 := hid b2
        clear b2
        go_wp2
        go_ret2
        rw [HR.out, HP2.out]
        exact ⟨rfl, B2.out⟩
end Go.Proofs.YtgfppbkibmegoaaDoor
