/- Contract of the reference's lead head. No conditions beyond those stated. -/
import Derived.Test.YtdmipllbifofmaaLead
set_option linter.unusedVariables false
set_option linter.unusedSimpArgs false
set_option maxRecDepth 100000
namespace Go.Proofs.Ytdmipllbifofmaa
open Go.RowKit

theorem l4Head_any (N : Nat) (nm : List UInt8) (cs : List (List UInt8)) (A : Option Addr) (n c : Nat) (w : World) (lo : 3 ≤ N) (hi : N ≤ 8) (hr : Rd w A n (strV cs)) (hn : n ≤ 1048576) (hs : ∀ x ∈ cs, okChange (N : Int) x = true) :
    Calls Try.prog 104 #[.agg #[.string (bs nm), .int .i64 N, .slice A n c]] w fun e w' => e = .returned (.string (bs (headL N cs))) ∧ Below w.heap.size w w' := by
  have HR := fun w0 => hid (l1Rounds_any N w0 hi)
  have HU := fun (w0 : World) (rd : Rd w0 A n (strV cs)) => hid (l4Lead_any A n c cs (roundsL N) w0 rd hn (rounds_row lo hi) (by rw [rounds_len]; exact hs))
  have RS := hid hr
  clear hr hs
  have q1 : (w.alloc (.cells #[.string (bs nm), .int .i64 (N : Int), .slice A n c] 30)).drew.cell? ⟨w.heap.size, 1, none⟩ = some (.int .i64 (N : Int)) := (Blk.new w 30 #[.string (bs nm), .int .i64 (N : Int), .slice A n c]).cell 1
  have q2 : (w.alloc (.cells #[.string (bs nm), .int .i64 (N : Int), .slice A n c] 30)).drew.cell? ⟨w.heap.size, 2, none⟩ = some (.slice A n c) := (Blk.new w 30 #[.string (bs nm), .int .i64 (N : Int), .slice A n c]).cell 2
  have hB : w.heap.size < (w.alloc (.cells #[.string (bs nm), .int .i64 (N : Int), .slice A n c] 30)).drew.heap.size := by simp
  go_enter Try.func104, Try.ntmps104
  go_wp2_with fail
  go_region_held3 (fun w' => w'.cell? ⟨w.heap.size, 1, none⟩ = some (.int .i64 (N : Int)) ∧ w'.cell? ⟨w.heap.size, 2, none⟩ = some (.slice A n c)) (first | exact ⟨q1, q2⟩ | exact ⟨(b1.cell (p := ⟨w.heap.size, 1, none⟩) hB).trans q1, (b1.cell (p := ⟨w.heap.size, 2, none⟩) hB).trans q2⟩)
    (first | (go_at_call 88; refine (HR _).out.mono ?_; rintro e w' ⟨rfl, rfl⟩) | (go_at_call 99; refine (HU _ ((RS.out.alloc _).drewN 1)).out.mono ?_; rintro e w1 ⟨v1, rfl, o1, b1⟩))
  have HB := hid ((((Below.refl w.heap.size w).alloc (Nat.le_refl _) (.cells #[.string (bs nm), .int .i64 (N : Int), .slice A n c] 30)).drew).trans (b1.mono (by simp)))
  obtain ⟨A1, c1, rfl, _⟩ := own_shape o1
  clear o1 b1 q1 q2 hB
  go_wp2
  go_ret
  exact ⟨rfl, HB.out⟩
end Go.Proofs.Ytdmipllbifofmaa
