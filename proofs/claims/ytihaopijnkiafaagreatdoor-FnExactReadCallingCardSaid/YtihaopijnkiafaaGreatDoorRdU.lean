/- Contract of the program's reading of an item of a calling. No conditions beyond those stated. -/
import Derived.Test.YtihaopijnkiafaaGreatDoorRdT
set_option linter.unusedVariables false
set_option linter.unusedSimpArgs false
set_option maxRecDepth 100000
namespace Go.Proofs.YtihaopijnkiafaaGreatDoor
open Go.RowKit

theorem numF_rng (s : List UInt8) : (numF 2 s).1 < 100 := by
  unfold numF
  split
  · rename_i h
    simp only [Bool.and_eq_true] at h
    have h1 := h.1
    unfold lenB at h1
    simp at h1
    have := numV_lt (s := s) s.length (Nat.le_refl _) (by rw [List.take_length]; exact h.2)
    rw [List.take_length] at this
    have h6 : 10 ^ s.length ≤ 10 ^ 2 := Nat.pow_le_pow_right (by decide) (by omega)
    dsimp only
    omega
  · decide
theorem itemF_nil : itemF [] = ([], 0, 0, false) := by unfold itemF; rw [if_pos rfl]
theorem itemF_cons (d : UInt8) (r : List UInt8) : itemF (d :: r) = if ((Lib.cut r [43]).2.2 && (numF 2 (Lib.cut r [43]).1).2) = true then ([d], (numF 2 (Lib.cut r [43]).1).1, (numF 2 (Lib.cut r [43]).2.1).1, (numF 2 (Lib.cut r [43]).2.1).2) else ([d], (numF 2 (Lib.cut r [43]).1).1, 0, (numF 2 (Lib.cut r [43]).1).2) := by
  unfold itemF
  rw [if_neg (by simp)]
  rfl
theorem itemF_rng (it : List UInt8) : (itemF it).2.1 < 100 ∧ (itemF it).2.2.1 < 100 := by
  cases it with
  | nil => rw [itemF_nil]; decide
  | cons d r =>
    rw [itemF_cons]
    have h1 := numF_rng (Lib.cut r [43]).1
    have h2 := numF_rng (Lib.cut r [43]).2.1
    split
    · exact ⟨h1, h2⟩
    · exact ⟨h1, by dsimp only; omega⟩
theorem cut_len (x : List UInt8) : (Lib.cut x [43]).1.length ≤ x.length ∧ (Lib.cut x [43]).2.1.length ≤ x.length := by
  rcases cut_at x with ⟨_, h⟩ | ⟨i, hi, _, h⟩
  · rw [h]; simp
  · rw [h]; simp; omega
set_option maxHeartbeats 2000000 in
theorem callingItem_any (it : List UInt8) (w : World) (hl : it.length ≤ 500) :
    Calls Tryz.prog 41 #[.string (bs it)] w fun e w' => e = .returned (.tuple #[.string (bs (itemF it).1), .int .i64 ((itemF it).2.1 : Int), .int .i64 ((itemF it).2.2.1 : Int), .bool (itemF it).2.2.2]) ∧ Below w.heap.size w w' := by
  cases it with
  | nil =>
    have HR := hid itemF_nil
    go_enter Tryz.func41, Tryz.ntmps41
    go_wp2
    refine bodyPost_ret (v := .tuple #[.string (bs []), .int .i64 0, .int .i64 0, .bool false]) (by simp [results, Tryz.results41, go_sem]) rfl ?_
    rw [HR.out]
    exact ⟨rfl, Below.refl _ _⟩
  | cons d r =>
    have HR := hid (itemF_cons d r)
    have hl2 : r.length ≤ 500 := by simp at hl; omega
    have GC := hid (fun (w0 : World) => cut_any r w0 (by omega))
    have hcl := cut_len r
    generalize Lib.cut r [43] = C at *
    obtain ⟨a, b, c⟩ := C
    dsimp only at *
    have GA := hid (fun (w0 : World) => number_any a w0 (by omega))
    have GB := hid (fun (w0 : World) => number_any b w0 (by omega))
    generalize numF 2 a = NA at *
    generalize numF 2 b = NB at *
    obtain ⟨na, oa⟩ := NA
    obtain ⟨nb, ob⟩ := NB
    dsimp only at *
    have h2j : (1 : Int) ≤ (r.length : Int) + 1 := by omega
    clear hcl hl
    cases c
    · go_enter Tryz.func41, Tryz.ntmps41
      go_wp2_with fail
      refine (GC.out _).mono ?_
      rintro e w1 ⟨rfl, b1⟩
      have HB := hid b1
      clear b1
      go_wp2_with fail
      refine (GA.out _).mono ?_
      rintro e w2 ⟨rfl, rfl⟩
      go_wp2
      refine bodyPost_ret (v := .tuple #[.string (bs [d]), .int .i64 (na : Int), .int .i64 0, .bool oa]) (by simp [results, Tryz.results41, go_sem]) rfl ?_
      rw [HR.out]
      exact ⟨rfl, HB.out⟩
    · cases oa
      · go_enter Tryz.func41, Tryz.ntmps41
        go_wp2_with fail
        refine (GC.out _).mono ?_
        rintro e w1 ⟨rfl, b1⟩
        have HB := hid b1
        clear b1
        go_wp2_with fail
        refine (GA.out _).mono ?_
        rintro e w2 ⟨rfl, rfl⟩
        go_wp2
        refine bodyPost_ret (v := .tuple #[.string (bs [d]), .int .i64 (na : Int), .int .i64 0, .bool false]) (by simp [results, Tryz.results41, go_sem]) rfl ?_
        rw [HR.out]
        exact ⟨rfl, HB.out⟩
      · go_enter Tryz.func41, Tryz.ntmps41
        go_wp2_with fail
        refine (GC.out _).mono ?_
        rintro e w1 ⟨rfl, b1⟩
        have HB := hid b1
        clear b1
        go_wp2_with fail
        refine (GA.out _).mono ?_
        rintro e w2 ⟨rfl, rfl⟩
        go_wp2_with fail
        refine (GB.out _).mono ?_
        rintro e w3 ⟨rfl, rfl⟩
        go_wp2
        refine bodyPost_ret (v := .tuple #[.string (bs [d]), .int .i64 (na : Int), .int .i64 (nb : Int), .bool ob]) (by simp [results, Tryz.results41, go_sem]) rfl ?_
        rw [HR.out]
        exact ⟨rfl, HB.out⟩
end Go.Proofs.YtihaopijnkiafaaGreatDoor
