/- Contracts of the library's functions that cut a text at one byte. No conditions beyond those stated. -/
import Derived.Test.YtihaopijnkiafaaGreatDoorRdC
import Derived.Test.YtihaopijnkiafaaGreatDoorShelf
import Derived.BigQuiet
set_option linter.unusedVariables false
set_option linter.unusedSimpArgs false
set_option maxRecDepth 100000
namespace Go.Proofs.YtihaopijnkiafaaGreatDoor
open Go.RowKit

theorem idx_one (x : List UInt8) (w : World) : Calls Tryz.prog 93 #[.string (bs x), .string (bs [43])] w fun e w' => e = .returned (.int .i64 (Lib.indexByte x 43)) ∧ w = w' := by
  refine (Tryz.stringslite_Index_one (bs x) 43 w).mono ?_
  rintro e w' ⟨rfl, rfl⟩
  exact ⟨rfl, rfl⟩
theorem cut_at (x : List UInt8) : (Lib.indexByte x 43 = -1 ∧ Lib.cut x [43] = (x, [], false)) ∨ ∃ i : Nat, i < x.length ∧ Lib.indexByte x 43 = (i : Int) ∧ Lib.cut x [43] = (x.take i, x.drop (i + 1), true) := by
  by_cases h : (43 : UInt8) ∈ x
  · obtain ⟨a, r, rfl, ha⟩ := List.eq_append_cons_of_mem h
    refine Or.inr ⟨a.length, by simp, idx_hit ha, ?_⟩
    rw [cut_yes ha, List.take_left' rfl, show a ++ 43 :: r = (a ++ [43]) ++ r by simp, List.drop_left' (by simp)]
  · exact Or.inl ⟨idx_miss h, cut_no h⟩
set_option maxHeartbeats 1000000 in
theorem liteCut_any (x : List UInt8) (w : World) (hx : x.length ≤ 1000) :
    Calls Tryz.prog 81 #[.string (bs x), .string (bs [43])] w fun e w' => e = .returned (.tuple #[.string (bs (Lib.cut x [43]).1), .string (bs (Lib.cut x [43]).2.1), .bool (Lib.cut x [43]).2.2]) ∧ Below w.heap.size w w' := by
  have GI := hid (fun w0 => idx_one x w0)
  rcases cut_at x with ⟨hi, hc⟩ | ⟨i, hlt, hi, hc⟩
  · rw [hi] at GI
    have HC := hid hc
    clear hi hc
    go_enter Tryz.func81, Tryz.ntmps81
    go_wp2_with fail
    refine (GI.out _).mono ?_
    rintro e w1 ⟨rfl, rfl⟩
    go_wp2
    refine bodyPost_ret (v := .tuple #[.string (bs x), .string (bs []), .bool false]) (by simp [results, Tryz.results81, go_sem]) rfl ?_
    rw [HC.out]
    exact ⟨rfl, Below.refl _ _⟩
  · rw [hi] at GI
    have HC := hid hc
    clear hi hc
    have i0 : (0 : Int) ≤ (i : Int) := by omega
    have i1 : (i : Int) ≤ (x.length : Int) := by omega
    have i2 : (0 : Int) ≤ (i : Int) + 1 := by omega
    have i3 : (i : Int) + 1 ≤ (x.length : Int) := by omega
    have i4 : ((i : Int) + 1).toNat = i + 1 := by omega
    have hwk : IntKind.i64.wrap ((i : Int) + 1) = (i : Int) + 1 := IntWalk.i64_in _ (by omega)
    go_enter Tryz.func81, Tryz.ntmps81
    go_wp2_with fail
    refine (GI.out _).mono ?_
    rintro e w1 ⟨rfl, rfl⟩
    go_wp2
    go_quiet (fail)
    go_wp2
    refine bodyPost_ret (v := .tuple #[.string (bs (x.take i)), .string (bs (x.drop (i + 1))), .bool true]) (by simp [results, Tryz.results81, go_sem]) rfl ?_
    rw [HC.out]
    exact ⟨rfl, below_drewN (Below.refl _ _) _⟩
set_option maxHeartbeats 1000000 in
theorem cut_any (x : List UInt8) (w : World) (hx : x.length ≤ 1000) :
    Calls Tryz.prog 64 #[.string (bs x), .string (bs [43])] w fun e w' => e = .returned (.tuple #[.string (bs (Lib.cut x [43]).1), .string (bs (Lib.cut x [43]).2.1), .bool (Lib.cut x [43]).2.2]) ∧ Below w.heap.size w w' := by
  have GI := hid (fun w0 => liteCut_any x w0 hx)
  generalize Lib.cut x [43] = C at *
  obtain ⟨a, b, c⟩ := C
  dsimp only at *
  go_enter Tryz.func64, Tryz.ntmps64
  go_wp2_with fail
  refine (GI.out _).mono ?_
  rintro e w1 ⟨rfl, b1⟩
  have HB := hid b1
  clear b1
  go_wp2
  refine bodyPost_ret (v := .tuple #[.string (bs a), .string (bs b), .bool c]) (by simp [results, Tryz.results64, go_sem]) rfl ?_
  exact ⟨rfl, HB.out⟩
theorem segs_B (s : List UInt8) : (Lib.splitB (bs [32]) 0 (Lib.countB (bs s) (bs [32])) (bs s)).map Value.string = strV (segsI 32 s) := by
  have h := Lib.splitB_data (bs [32]) 0 (Lib.countB (bs s) (bs [32])) (bs s)
  have h2 : segsI 32 s = (Lib.splitB (bs [32]) 0 (Lib.countB (bs s) (bs [32])) (bs s)).map (fun x => x.data.toList) := by rw [h]; rfl
  rw [h2]
  unfold strV
  rw [List.map_map]
  rfl
set_option maxHeartbeats 1000000 in
theorem split_any (s : List UInt8) (w : World) (hs : s.length ≤ 1000) :
    Calls Tryz.prog 40 #[.string (bs s), .string (bs [32])] w fun e w' => e = .returned (.slice (some ⟨w.heap.size, 0, none⟩) (segsI 32 s).length (segsI 32 s).length) ∧ w' = w.alloc (.cells (strV (segsI 32 s)).toArray 9) := by
  have hle := Lib.countB_le (bs [32]) (by decide) (bs s).size (bs s) (Nat.le_refl _)
  have hlen := Lib.splitB_all (bs [32]) (by decide) 0 _ (bs s) rfl
  have hsz : (bs s).size = s.length := bs_size s
  have c := Any.strings_genSplit_core Tryz.lays221 (by kernel_rfl) (bs s) (bs [32]) 0 (-1) (Lib.countB (bs s) (bs [32]) + 1) w (by omega) (by decide) (by decide)
    (fun x c hx => by
      refine (Tryz.strings_Index_one x 32 _).mono ?_
      rintro e w' ⟨rfl, rfl⟩
      exact ⟨by rw [show Lib.indexB x (bs [32]) = Lib.index x.data.toList [32] from rfl, Lib.index_one], rfl⟩)
    (by
      refine (Tryz.strings_Count_one (bs s) 32 w).mono ?_
      rintro e w' ⟨rfl, rfl⟩
      exact ⟨by rw [show Lib.countB (bs s) (bs [32]) = Lib.count (bs s).data.toList [32] from rfl, Lib.count_one]; rfl, rfl⟩)
    (by decide) (by decide) (by rw [if_pos (by decide)]; omega)
  rw [Nat.add_sub_cancel, hlen] at c
  have e2 : Lib.cellsOf (Lib.splitB (bs [32]) 0 (Lib.countB (bs s) (bs [32])) (bs s)) (Lib.countB (bs s) (bs [32]) + 1) = ((Lib.splitB (bs [32]) 0 (Lib.countB (bs s) (bs [32])) (bs s)).map Value.string).toArray := by rw [← hlen]; exact Lib.cellsOf_full _
  have hsl : Lib.countB (bs s) (bs [32]) + 1 = (segsI 32 s).length := by
    have := congrArg List.length (segs_B s)
    rw [List.length_map, hlen, strV_len] at this
    exact this
  rw [e2, segs_B, hsl] at c
  have GC := hid (show Calls Tryz.prog 63 #[.string (bs s), .string (bs [32]), .int .i64 0, .int .i64 (-1)] w fun e w' => e = .returned (.slice (some ⟨w.heap.size, 0, none⟩) (segsI 32 s).length (segsI 32 s).length) ∧ w' = w.alloc (.cells (strV (segsI 32 s)).toArray 9) from c)
  clear c e2 hsl hle hlen hsz
  go_enter Tryz.func40, Tryz.ntmps40
  go_wp2_with fail
  refine GC.out.mono ?_
  rintro e w1 ⟨rfl, rfl⟩
  go_wp2
  go_ret
  exact ⟨rfl, rfl⟩
end Go.Proofs.YtihaopijnkiafaaGreatDoor
