/- Contracts of called leads: the method with its last change replaced, its lead head. No conditions beyond those stated. -/
import Derived.Test.YtihaopijnkiafaaGreatDoorLead
import Derived.Test.YtihaopijnkiafaaGreatDoorLeadS
set_option linter.unusedVariables false
set_option linter.unusedSimpArgs false
set_option maxRecDepth 100000
namespace Go.Proofs.YtihaopijnkiafaaGreatDoor
open Go.RowKit

/-- The last change under a call. -/
def lastC (cs : List (List UInt8)) (k : List UInt8 × List UInt8) (call : List UInt8) : List UInt8 := if call = [98] then k.1 else if call = [115] then k.2 else cs.getD (cs.length - 1) []
/-- The changes with the last one replaced by a call. -/
def calledL (cs : List (List UInt8)) (k : List UInt8 × List UInt8) (call : List UInt8) : List (List UInt8) := cs.take (cs.length - 1) ++ [lastC cs k call]
theorem calledL_len {cs : List (List UInt8)} (k : List UInt8 × List UInt8) (call : List UInt8) (h : 1 ≤ cs.length) : (calledL cs k call).length = cs.length := by simp [calledL]; omega
theorem calledL_set {cs : List (List UInt8)} (h : 1 ≤ cs.length) (x : List UInt8) : cs.set (cs.length - 1) x = cs.take (cs.length - 1) ++ [x] := by
  rw [List.set_eq_take_append_cons_drop, if_pos (by omega), List.drop_of_length_le (by omega)]
theorem calledL_b {cs : List (List UInt8)} (k : List UInt8 × List UInt8) (h : 1 ≤ cs.length) : calledL cs k [98] = cs.set (cs.length - 1) k.1 := by rw [calledL_set h]; rfl
theorem calledL_s {cs : List (List UInt8)} (k : List UInt8 × List UInt8) (h : 1 ≤ cs.length) : calledL cs k [115] = cs.set (cs.length - 1) k.2 := by rw [calledL_set h]; rfl
theorem calledL_p {cs : List (List UInt8)} (k : List UInt8 × List UInt8) (call : List UInt8) (h : 1 ≤ cs.length) (h1 : call ≠ [98]) (h2 : call ≠ [115]) : calledL cs k call = cs := by
  have e : lastC cs k call = cs[cs.length - 1] := by
    unfold lastC
    rw [if_neg h1, if_neg h2]
    simp [List.getD, show cs.length - 1 < cs.length by omega]
  rw [calledL, e, ← List.take_succ_eq_append_getElem (by omega), List.take_of_length_le (by omega)]
theorem calledL_ok {N : Nat} {cs : List (List UInt8)} {k : List UInt8 × List UInt8} {call : List UInt8} (hs : ∀ x ∈ cs, okChange (N : Int) x = true) (h : 1 ≤ cs.length) (h1 : okChange (N : Int) k.1 = true) (h2 : okChange (N : Int) k.2 = true) : ∀ x ∈ calledL cs k call, okChange (N : Int) x = true := by
  intro x hx
  simp only [calledL, List.mem_append, List.mem_singleton] at hx
  rcases hx with hx | rfl
  · exact hs x (List.mem_of_mem_take hx)
  · unfold lastC
    split
    · exact h1
    · split
      · exact h2
      · have : cs.getD (cs.length - 1) [] = cs[cs.length - 1] := by simp [List.getD, show cs.length - 1 < cs.length by omega]
        rw [this]
        exact hs _ (List.getElem_mem _)
theorem lastC_ok {N : Nat} {cs : List (List UInt8)} {k : List UInt8 × List UInt8} {call : List UInt8} (hs : ∀ x ∈ cs, okChange (N : Int) x = true) (h : 1 ≤ cs.length) (h1 : okChange (N : Int) k.1 = true) (h2 : okChange (N : Int) k.2 = true) : okChange (N : Int) (lastC cs k call) = true :=
  calledL_ok (k := k) (call := call) hs h h1 h2 _ (by simp [calledL])
/-- The lead's head under a call. -/
def callHeadL (N : Nat) (cs : List (List UInt8)) (k : List UInt8 × List UInt8) (call : List UInt8) : List UInt8 := headL N (calledL cs k call)
theorem callHeadL_eq (N : Nat) (cs : List (List UInt8)) (k : List UInt8 × List UInt8) (call : List UInt8) : callHeadL N cs k call = applyL (headL N (cs.take (cs.length - 1))) (lastC cs k call) := by rw [callHeadL, calledL, headL, headL, end_snoc]
theorem callHeadL_len (N : Nat) (cs : List (List UInt8)) (k : List UInt8 × List UInt8) (call : List UInt8) : (callHeadL N cs k call).length = N := headL_len _ _
theorem callHeadL_row {N : Nat} (lo : 3 ≤ N) (hi : N ≤ 8) (cs : List (List UInt8)) (k : List UInt8 × List UInt8) (call : List UInt8) : IsRow (callHeadL N cs k call) := headL_row lo hi _

theorem withChanges_any (nm : List UInt8) (st : Int) (v u : Value) (A : Option Addr) (n c : Nat) (w : World) (hv : v = .slice A n c) (hu : ∃ B m d, u = .slice B m d) :
    Calls Tryz.prog 77 #[.agg #[.string (bs nm), .int .i64 st, u], v] w fun e w' => e = .returned (.agg #[.string (bs nm), .int .i64 st, v]) ∧ Below w.heap.size w w' := by
  obtain ⟨B, m, d, rfl⟩ := hu
  subst hv
  go_enter Tryz.func77, Tryz.ntmps77
  go_wp2
  refine bodyPost_ret (v := .agg #[.string (bs nm), .int .i64 st, .slice A n c]) (by simp [results, Tryz.results77, go_sem]) rfl ⟨rfl, ?_⟩
  exact ((Below.refl _ _).alloc (Nat.le_refl _) _).alloc (by simp) _
section
variable {X Y : World} {g : Nat} {a b c : Value}
/-- The three cells of a block. -/
theorem box3_grown {r : Option Nat} (g5 : X.grownBy Y r) (h : X.cell? ⟨g, 0, none⟩ = some a ∧ X.cell? ⟨g, 1, none⟩ = some b ∧ X.cell? ⟨g, 2, none⟩ = some c) (hne : r ≠ some g) : Y.cell? ⟨g, 0, none⟩ = some a ∧ Y.cell? ⟨g, 1, none⟩ = some b ∧ Y.cell? ⟨g, 2, none⟩ = some c := by
  have hl := World.block_lt_of_cell? X _ h.1
  have h3 := g5.block g hl (fun e => hne (by first | exact e.symm | exact e))
  simp only [World.cell?] at h ⊢
  rw [h3]; exact h
theorem box3_below (hb : Below X.heap.size X Y) (h : X.cell? ⟨g, 0, none⟩ = some a ∧ X.cell? ⟨g, 1, none⟩ = some b ∧ X.cell? ⟨g, 2, none⟩ = some c) : Y.cell? ⟨g, 0, none⟩ = some a ∧ Y.cell? ⟨g, 1, none⟩ = some b ∧ Y.cell? ⟨g, 2, none⟩ = some c := by
  have hl := World.block_lt_of_cell? X _ h.1
  exact ⟨(hb.cell hl).trans h.1, (hb.cell (p := ⟨g, 1, none⟩) hl).trans h.2.1, (hb.cell (p := ⟨g, 2, none⟩) hl).trans h.2.2⟩
theorem box3_alloc {o : Obj} (h : X.cell? ⟨g, 0, none⟩ = some a ∧ X.cell? ⟨g, 1, none⟩ = some b ∧ X.cell? ⟨g, 2, none⟩ = some c) : (X.alloc o).cell? ⟨g, 0, none⟩ = some a ∧ (X.alloc o).cell? ⟨g, 1, none⟩ = some b ∧ (X.alloc o).cell? ⟨g, 2, none⟩ = some c := box3_below ((Below.refl _ _).alloc (Nat.le_refl _) _) h
theorem box3_set {p : Addr} {u : Value} (h : X.cell? ⟨g, 0, none⟩ = some a ∧ X.cell? ⟨g, 1, none⟩ = some b ∧ X.cell? ⟨g, 2, none⟩ = some c) (hne : g < p.block) : (X.setCell p u).cell? ⟨g, 0, none⟩ = some a ∧ (X.setCell p u).cell? ⟨g, 1, none⟩ = some b ∧ (X.setCell p u).cell? ⟨g, 2, none⟩ = some c := by
  refine ⟨?_, ?_, ?_⟩ <;> rw [World.cell?_setCell_other _ _ _ _ (by intro e; rw [e] at hne; exact Nat.lt_irrefl _ hne)]
  · exact h.1
  · exact h.2.1
  · exact h.2.2
end
theorem drew_size (w : World) : w.drew.heap.size = w.heap.size := rfl
theorem own_empty {W : World} {base g : Nat} {t : TypeId} (hW : W.heap[g]? = some (.cells #[] t (0, 0))) (hb : base ≤ g) : W.ownsRow base t 1 (.slice (some ⟨g, 0, none⟩) 0 0) 0 [] := own_of_blk (cs := #[]) hW hb (by simp [maxLen])
/-- Three cells of block g. -/
def Box3 (X : World) (g : Nat) (a b c : Value) : Prop := X.cell? ⟨g, 0, none⟩ = some a ∧ X.cell? ⟨g, 1, none⟩ = some b ∧ X.cell? ⟨g, 2, none⟩ = some c
theorem Box3.of {X : World} {g : Nat} {t : TypeId} {a b c : Value} (h : Blk X g t #[a, b, c]) : Box3 X g a b c := ⟨h.cell 0, h.cell 1, h.cell 2⟩
theorem strV_set (l : List (List UInt8)) (j : Nat) (x : List UInt8) : (strV l).set j (.string (bs x)) = strV (l.set j x) := by simp [strV, List.map_set]
theorem own_far {w : World} {base : Nat} {e : TypeId} {size : Nat} {v : Value} {n : Nat} {xs : List Value} {p : Addr} {u : Value} (h : w.ownsRow base e size v n xs) (hne : ∀ q, v.ownBlock = some q → q ≠ p.block) : (w.setCell p u).ownsRow base e size v n xs := by
  refine ⟨h.1, ?_⟩
  rcases h.2 with h | ⟨g, cap, cur, rfl, hg, hh, r⟩
  · exact .inl h
  · exact .inr ⟨g, cap, cur, rfl, hg, (Below.heap_setCell w p u g (hne g rfl)).trans hh, r⟩
theorem own_far3 {w : World} {base : Nat} {e : TypeId} {size : Nat} {v : Value} {n g : Nat} {xs : List Value} (h : w.ownsRow base e size v n xs) (hne : ∀ q, v.ownBlock = some q → q ≠ g) (a b c : Value) : (((w.setCell ⟨g, 0, none⟩ a).setCell ⟨g, 1, none⟩ b).setCell ⟨g, 2, none⟩ c).ownsRow base e size v n xs := own_far (own_far (own_far h hne) hne) hne
theorem blk_grown {X Y : World} {g : Nat} {t : TypeId} {cs : Array Value} {r : Option Nat} (g5 : X.grownBy Y r) (h : Blk X g t cs) (hne : r ≠ some g) : Blk Y g t cs :=
  (g5.block g h.lt (fun e => hne (by first | exact e.symm | exact e))).trans h
theorem blk_two (W : World) (o : Obj) (t : TypeId) (cs : Array Value) : Blk (((W.alloc o).alloc (.cells cs t)).drew) (W.heap.size + 1) t cs := by
  have := (Blk.new (W.alloc o) t cs).drewN 1
  rw [alloc_size] at this
  exact this
/-- What stands behind the copy of a method. -/
def LeadCut (W3 : World) (nm : List UInt8) (st : Int) (cs : List (List UInt8)) (n : Nat) (s : Value) (Z : World) : Prop := ∃ (G7 : Nat) (A5 : Option Addr) (c5 : Nat), s = .pointer (some ⟨G7, 0, none⟩) ∧ Blk Z G7 31 #[.string (bs nm), .int .i64 st, .slice A5 n c5] ∧ Below W3.heap.size W3 Z ∧ Z.ownsRow W3.heap.size 9 1 (.slice A5 n c5) n (strV cs) ∧ ∀ q, (Value.slice A5 n c5).ownBlock = some q → q ≠ G7
set_option maxHeartbeats 8000000 in
theorem calledLead_any (nm call : List UInt8) (st : Int) (cs : List (List UInt8)) (k : List UInt8 × List UInt8) (A : Option Addr) (n c : Nat) (w : World) (hr : Rd w A n (strV cs)) (hn : n ≤ 1048576) (h1 : 1 ≤ cs.length) :
    Calls Tryz.prog 62 #[.agg #[.string (bs nm), .int .i64 st, .slice A n c], .agg #[.string (bs k.1), .string (bs k.2)], .string (bs call)] w (OneM w ⟨nm, st, calledL cs k call⟩) := by
  have hl := hid (show cs.length = n by have := hr.1; rw [strV_len] at this; exact this)
  obtain ⟨k1, k2⟩ := k
  have RS := hid hr
  clear hr
  obtain ⟨i0, hi, hz0, hz1, hz2⟩ := info_parts infoStr
  go_enter Tryz.func62, Tryz.ntmps62
  go_upto_region 1 with fail
  have M1 := Blk.new w 31 #[.string (bs nm), .int .i64 st, .slice A n c]
  have M2 := M1.alloc (.cells #[.string (bs k1), .string (bs k2)] 33)
  have M3 := M2.alloc (.cells #[.string (bs []), .int .i64 0, .slice none 0 0] 31)
  have K2 := Blk.new (w.alloc (.cells #[.string (bs nm), .int .i64 st, .slice A n c] 31)) 33 #[.string (bs k1), .string (bs k2)]
  have K3 := K2.alloc (.cells #[.string (bs []), .int .i64 0, .slice none 0 0] 31)
  have R4 := Blk.new ((w.alloc (.cells #[.string (bs nm), .int .i64 st, .slice A n c] 31)).alloc (.cells #[.string (bs k1), .string (bs k2)] 33)) 31 #[.string (bs []), .int .i64 0, .slice none 0 0]
  have B3 : Below w.heap.size w (((w.alloc (.cells #[.string (bs nm), .int .i64 st, .slice A n c] 31)).alloc (.cells #[.string (bs k1), .string (bs k2)] 33)).alloc (.cells #[.string (bs []), .int .i64 0, .slice none 0 0] 31)) := (((Below.refl _ _).alloc (Nat.le_refl _) _).alloc (by simp) _).alloc (by simp; omega) _
  have hsz : (((w.alloc (.cells #[.string (bs nm), .int .i64 st, .slice A n c] 31)).alloc (.cells #[.string (bs k1), .string (bs k2)] 33)).alloc (.cells #[.string (bs []), .int .i64 0, .slice none 0 0] 31)).heap.size = w.heap.size + 1 + 1 + 1 := by simp
  generalize (((w.alloc (.cells #[.string (bs nm), .int .i64 st, .slice A n c] 31)).alloc (.cells #[.string (bs k1), .string (bs k2)] 33)).alloc (.cells #[.string (bs []), .int .i64 0, .slice none 0 0] 31)) = W3 at *
  simp only [alloc_size] at K3 R4
  have hRB : ∀ W', Below W3.heap.size W3 W' → Blk W' (w.heap.size + 1 + 1) 31 #[.string (bs []), .int .i64 0, .slice none 0 0] := fun W' h => R4.below h (by omega)
  have HRB := hid hRB
  have R3 := hid (RS.out.below B3)
  have hMB : ∀ W', Below W3.heap.size W3 W' → Box3 W' w.heap.size (.string (bs nm)) (.int .i64 st) (.slice A n c) := fun W' h => Box3.of (M3.below h (by omega))
  have hKB : ∀ W', Below W3.heap.size W3 W' → Blk W' (w.heap.size + 1) 33 #[.string (bs k1), .string (bs k2)] := fun W' h => K3.below h (by omega)
  have HMB := hid hMB
  have HKB := hid hKB
  have HB3 := hid B3
  have HSZ := hid hsz
  obtain ⟨c0, c1, c2⟩ := hMB W3 (Below.refl _ _)
  have E1 : ((W3.alloc (.cells #[] 9)).drew).ownsRow W3.heap.size 9 1 (.slice (some ⟨W3.heap.size, 0, none⟩) 0 0) 0 [] := own_empty (heap_alloc_new W3 _) (Nat.le_refl _)
  have E2 : ∀ o, (((W3.alloc o).alloc (.cells #[] 9)).drew).ownsRow W3.heap.size 9 1 (.slice (some ⟨W3.heap.size + 1, 0, none⟩) 0 0) 0 [] := fun o => own_empty (by have := heap_alloc_new (W3.alloc o) (.cells #[] 9 (0, 0)); rwa [alloc_size] at this) (by omega)
  have E3 : ∀ o, (((W3.alloc (.cells #[] 9)).alloc o).drew).ownsRow W3.heap.size 9 1 (.slice (some ⟨W3.heap.size, 0, none⟩) 0 0) 0 [] := fun o => own_empty ((Blk.new W3 9 #[]).alloc o) (Nat.le_refl _)
  have HE1 := hid E1
  have HE2 := hid E2
  have HE3 := hid E3
  clear hMB hKB hRB B3 hsz M1 M2 M3 K2 K3 R4 E1 E2 E3
  go_cut [7] (fun s7 wx => LeadCut W3 nm st cs n s7 wx)
  case first =>
   go_region_held3 (fun w' => w'.cell? ⟨w.heap.size, 0, none⟩ = some (.string (bs nm)) ∧ w'.cell? ⟨w.heap.size, 1, none⟩ = some (.int .i64 st) ∧ w'.cell? ⟨w.heap.size, 2, none⟩ = some (.slice A n c))
     (first | exact ⟨c0, c1, c2⟩ | exact HMB.out _ (((Below.refl _ _).alloc (Nat.le_refl _) _).drew) | exact HMB.out _ ((((Below.refl _ _).alloc (Nat.le_refl _) _).alloc (by simp) _).drew) | exact HMB.out _ B6 | exact HMB.out _ B5 | exact HMB.out _ (B5.alloc B5.size _) | exact HMB.out _ (B6.alloc B6.size _) | exact HMB.out _ (((B6.setCell (p := ⟨_, _, _⟩) (by first | exact Nat.le_refl _ | exact B5.size | exact Nat.le_succ _ | omega) _).setCell (p := ⟨_, _, _⟩) (by first | exact Nat.le_refl _ | exact B5.size | exact Nat.le_succ _ | omega) _).setCell (p := ⟨_, _, _⟩) (by first | exact Nat.le_refl _ | exact B5.size | exact Nat.le_succ _ | omega) _) | exact HMB.out _ ((((B6.alloc B6.size _).setCell B6.size _).setCell B6.size _).setCell B6.size _))
     (first
       | (go_at_call 77; refine (withChanges_any nm st _ _ _ _ _ _ rfl ⟨_, _, _, rfl⟩).mono ?_; rintro e w6 ⟨rfl, b6⟩; have B6 : Below W3.heap.size W3 w6 := (by first | exact B5.trans (b6.mono B5.size) | exact (B5.alloc B5.size _).trans (b6.mono (B5.alloc B5.size _).size)); first | (have Z6 := Z5.below b6 Z5.lt; have zf := hid Z6; obtain ⟨z0, z1, z2⟩ := Box3.of Z6; have y0 := Z6.frozen 0; have y1 := Z6.frozen 1; have y2 := Z6.frozen 2) | (have Z6 : Blk w6 w5.heap.size 31 #[.string (bs []), .int .i64 0, .slice none 0 0] := (Blk.new w5 _ #[.string (bs []), .int .i64 0, .slice none 0 0]).below b6 (Blk.new w5 _ #[.string (bs []), .int .i64 0, .slice none 0 0]).lt; have zf := hid Z6; obtain ⟨z0, z1, z2⟩ := Box3.of Z6; have y0 := Z6.frozen 0; have y1 := Z6.frozen 1; have y2 := Z6.frozen 2) | skip)
       | (refine wp_append_rd _ (.tmp 10) (.tmp 12) 22 rfl W3.heap.size 9 i0 _ 16 Tryz.underlying22 hi hz0 hz1 hz2 rfl _ 0 [] rfl (by first | exact HE1.out | exact HE2.out _ | exact HE3.out _) A n c (strV cs) rfl (by first | exact (R3.out.alloc _).drewN 1 | exact ((R3.out.alloc _).alloc _).drewN 1) (strV_one _) (by unfold maxLen; omega) (by omega) (by simp only [drew_size, alloc_size]; omega) ?_; intro v5 w5 o5 g5 f5; obtain ⟨A5, c5, rfl, _⟩ := own_shape o5; have B5 : Below W3.heap.size W3 w5 := (by first | exact (((Below.refl _ _).alloc (Nat.le_refl _) _).drew).grown g5 (by simp only [drew_size, alloc_size]; omega) (fun q hq => by first | (have e : some W3.heap.size = some q := hq; injection e with e; omega) | (have e : some (W3.heap.size + 1) = some q := hq; injection e with e; omega)) | exact ((((Below.refl _ _).alloc (Nat.le_refl _) _).alloc (by simp) _).drew).grown g5 (by simp only [drew_size, alloc_size]; omega) (fun q hq => by first | (have e : some W3.heap.size = some q := hq; injection e with e; omega) | (have e : some (W3.heap.size + 1) = some q := hq; injection e with e; omega))); first | (have Z5 : Blk w5 W3.heap.size 31 #[.string (bs []), .int .i64 0, .slice none 0 0] := blk_grown g5 (((Blk.new W3 _ #[.string (bs []), .int .i64 0, .slice none 0 0]).alloc _).drewN 1) (by intro e; have e2 : some (W3.heap.size + 1) = some W3.heap.size := e; injection e2 with e2; omega)) | (have Z5 : Blk w5 (W3.heap.size + 1) 31 #[.string (bs []), .int .i64 0, .slice none 0 0] := blk_grown g5 (blk_two W3 _ _ _) (by intro e; have e2 : some W3.heap.size = some (W3.heap.size + 1) := e; injection e2 with e2; omega)) | skip))
   all_goals clear HE1 HE2 HE3 c0 c1 c2
   all_goals rw [Nat.zero_add] at f5
   all_goals first
     | (
         have O5 := o5
         simp only [Nat.zero_add, List.nil_append] at O5
         have O6 := own_below O5 b6
         have HX : Blk (w6.alloc (.cells #[.string (bs nm), .int .i64 st, .slice A5 n c5] 31)) w6.heap.size 31 #[.string (bs nm), .int .i64 st, .slice A5 n c5] := Blk.new _ _ _
         have BX : Below W3.heap.size W3 (w6.alloc (.cells #[.string (bs nm), .int .i64 st, .slice A5 n c5] 31)) := B6.alloc B6.size _
         have OX := own_below O6 ((Below.refl _ _).alloc (Nat.le_refl _) (.cells #[.string (bs nm), .int .i64 st, .slice A5 n c5] 31))
         have NE : ∀ q, (Value.slice A5 n c5).ownBlock = some q → q ≠ w6.heap.size := fun q hq => by have := (O6.lt q hq).2; omega
         go_wp2_with fail
         go_meet
         exact ⟨_, A5, c5, rfl, HX, BX, OX, NE⟩)
     | (
         have O5 := o5
         simp only [Nat.zero_add, List.nil_append] at O5
         have O6 := own_below O5 ((Below.refl _ _).alloc (Nat.le_refl _) (.cells #[.string (bs []), .int .i64 0, .slice none 0 0] 31))
         have O7 := own_below O6 b6
         have HX : Blk (((w6.setCell ⟨w5.heap.size, 0, none⟩ (.string (bs nm))).setCell ⟨w5.heap.size, 1, none⟩ (.int .i64 st)).setCell ⟨w5.heap.size, 2, none⟩ (.slice A5 n c5)) (w5.heap.size) 31 #[.string (bs nm), .int .i64 st, .slice A5 n c5] := by simpa using ((zf.out.set_ 0 (.string (bs nm))).set_ 1 (.int .i64 st)).set_ 2 (.slice A5 n c5)
         have BX : Below W3.heap.size W3 (((w6.setCell ⟨w5.heap.size, 0, none⟩ (.string (bs nm))).setCell ⟨w5.heap.size, 1, none⟩ (.int .i64 st)).setCell ⟨w5.heap.size, 2, none⟩ (.slice A5 n c5)) := ((B6.setCell (p := ⟨w5.heap.size, 0, none⟩) (B5.size) _).setCell (p := ⟨w5.heap.size, 1, none⟩) (B5.size) _).setCell (p := ⟨w5.heap.size, 2, none⟩) (B5.size) _
         have NE : ∀ q, (Value.slice A5 n c5).ownBlock = some q → q ≠ w5.heap.size := fun q hq => by have := (O5.lt q hq).2; omega
         have OX := own_far3 O7 NE (.string (bs nm)) (.int .i64 st) (.slice A5 n c5)
         go_wp2_with fail
         go_meet
         exact ⟨_, A5, c5, rfl, HX, BX, OX, NE⟩)
     | (
         have O5 := o5
         simp only [Nat.zero_add, List.nil_append] at O5
         have O6 := own_below O5 (Below.refl _ _)
         have O7 := own_below O6 b6
         have HX : Blk (((w6.setCell ⟨W3.heap.size + 1, 0, none⟩ (.string (bs nm))).setCell ⟨W3.heap.size + 1, 1, none⟩ (.int .i64 st)).setCell ⟨W3.heap.size + 1, 2, none⟩ (.slice A5 n c5)) (W3.heap.size + 1) 31 #[.string (bs nm), .int .i64 st, .slice A5 n c5] := by simpa using ((zf.out.set_ 0 (.string (bs nm))).set_ 1 (.int .i64 st)).set_ 2 (.slice A5 n c5)
         have BX : Below W3.heap.size W3 (((w6.setCell ⟨W3.heap.size + 1, 0, none⟩ (.string (bs nm))).setCell ⟨W3.heap.size + 1, 1, none⟩ (.int .i64 st)).setCell ⟨W3.heap.size + 1, 2, none⟩ (.slice A5 n c5)) := ((B6.setCell (p := ⟨W3.heap.size + 1, 0, none⟩) (Nat.le_succ _) _).setCell (p := ⟨W3.heap.size + 1, 1, none⟩) (Nat.le_succ _) _).setCell (p := ⟨W3.heap.size + 1, 2, none⟩) (Nat.le_succ _) _
         have NE : ∀ q, (Value.slice A5 n c5).ownBlock = some q → q ≠ W3.heap.size + 1 := fun q hq e => by
           rcases f5 with h | h
           · have e2 : some q = some W3.heap.size := hq.symm.trans h
             injection e2 with e2; omega
           · have e2 := hq.symm.trans h
             injection e2 with e2
             simp only [drew_size, alloc_size] at e2; omega
         have OX := own_far3 O7 NE (.string (bs nm)) (.int .i64 st) (.slice A5 n c5)
         go_wp2_with fail
         go_meet
         exact ⟨_, A5, c5, rfl, HX, BX, OX, NE⟩)
     | (
         have O5 := o5
         simp only [Nat.zero_add, List.nil_append] at O5
         have O6 := own_below O5 (Below.refl _ _)
         have O7 := own_below O6 b6
         have HX : Blk (((w6.setCell ⟨W3.heap.size, 0, none⟩ (.string (bs nm))).setCell ⟨W3.heap.size, 1, none⟩ (.int .i64 st)).setCell ⟨W3.heap.size, 2, none⟩ (.slice A5 n c5)) (W3.heap.size) 31 #[.string (bs nm), .int .i64 st, .slice A5 n c5] := by simpa using ((zf.out.set_ 0 (.string (bs nm))).set_ 1 (.int .i64 st)).set_ 2 (.slice A5 n c5)
         have BX : Below W3.heap.size W3 (((w6.setCell ⟨W3.heap.size, 0, none⟩ (.string (bs nm))).setCell ⟨W3.heap.size, 1, none⟩ (.int .i64 st)).setCell ⟨W3.heap.size, 2, none⟩ (.slice A5 n c5)) := ((B6.setCell (p := ⟨W3.heap.size, 0, none⟩) (Nat.le_refl _) _).setCell (p := ⟨W3.heap.size, 1, none⟩) (Nat.le_refl _) _).setCell (p := ⟨W3.heap.size, 2, none⟩) (Nat.le_refl _) _
         have NE : ∀ q, (Value.slice A5 n c5).ownBlock = some q → q ≠ W3.heap.size := fun q hq e => by
           rcases f5 with h | h
           · have e2 : some q = some (W3.heap.size + 1) := hq.symm.trans h
             injection e2 with e2; omega
           · have e2 := hq.symm.trans h
             injection e2 with e2
             simp only [drew_size, alloc_size] at e2; omega
         have OX := own_far3 O7 NE (.string (bs nm)) (.int .i64 st) (.slice A5 n c5)
         go_wp2_with fail
         go_meet
         exact ⟨_, A5, c5, rfl, HX, BX, OX, NE⟩)
  case rest =>
    obtain ⟨G7, A5, c5, rfl, HX, BX, OX, NE⟩ := hcut
    clear c0 c1 c2
    obtain ⟨j, rfl⟩ : ∃ j, n = j + 1 := ⟨n - 1, by have := hl.out; omega⟩
    obtain ⟨q, cur, hv, hg, hh, hcc, hmm, _⟩ : ∃ q cur, A5 = some ⟨q, 0, none⟩ ∧ W3.heap.size ≤ q ∧ wc.heap[q]? = some (.cells cur 9 (0, 0)) ∧ j + 1 ≤ c5 ∧ c5 ≤ maxLen ∧ True := by
      rcases OX.2 with ⟨e, _⟩ | ⟨g, cap, cur, e, h1, h2, h3, h4, _⟩
      · injection e with e1 e2 e3; cases e2
      · injection e with e1 e2 e3
        subst e3
        exact ⟨g, cur, e1, h1, h2, h3, h4, trivial⟩
    subst hv
    have hne : q ≠ G7 := NE q rfl
    have hj : j < (strV cs).length := by rw [strV_len, hl.out]; omega
    have HO := hid OX
    have hcell := (OX.cellAt j (by omega)).trans (List.getElem?_eq_getElem hj)
    have hfz := OX.frozenAt j
    have KX := HKB.out _ BX
    have RX := HRB.out _ BX
    have hq2 : w.heap.size + 1 + 1 ≠ q := by have := HSZ.out; omega
    have hne' : G7 ≠ q := Ne.symm hne
    have hq2' : q ≠ w.heap.size + 1 + 1 := Ne.symm hq2
    have x0 := HX.cell 0
    have x1 := HX.cell 1
    have x2 := HX.cell 2
    have k0 := KX.cell 0
    have k1' := KX.cell 1
    have r0 := RX.cell 0
    have r1 := RX.cell 1
    have r2 := RX.cell 2
    have g0 := RX.frozen 0
    have g1 := RX.frozen 1
    have g2 := RX.frozen 2
    simp only [List.getElem?_toArray, List.getElem?_cons_zero, List.getElem?_cons_succ] at x0 x1 x2 k0 k1' r0 r1 r2
    have i0' : (0 : Int) ≤ (j : Int) := by omega
    have hw0 : wrap64 (j : Int) = (j : Int) := by unfold wrap64; omega
    have HBX := hid BX
    clear hh KX RX HX BX OX NE
    by_cases c1 : call = [98]
    · have b1 : (call == [98]) = true := by simpa using c1
      have HR := hid (calledL_b (cs := cs) (k1, k2) h1)
      rw [← c1] at HR
      clear c1
      go_wp2
      refine bodyPost_ret (v := .agg #[.string (bs nm), .int .i64 st, .slice (some ⟨q, 0, none⟩) (j + 1) c5]) (by simp [results, Tryz.results62, go_sem, r0, r1, r2, hne, hne', hq2, hq2']) rfl ⟨_, rfl, ?_, ?_⟩
      · have h2 := (HO.out.stored j (.string (bs k1))).1
        rw [strV_set, show j = cs.length - 1 by rw [hl.out]; omega, ← HR.out] at h2
        rw [show (⟨nm, st, calledL cs (k1, k2) call⟩ : Meth).ch.length = j + 1 by rw [calledL_len _ _ h1, hl.out]]
        rw [show cs.length - 1 = j by rw [hl.out]; omega] at h2
        have hs := HSZ.out
        exact own_mono (own_set (own_set (own_set h2 (by show w.heap.size + 1 + 1 < _; omega)) (by show w.heap.size + 1 + 1 < _; omega)) (by show w.heap.size + 1 + 1 < _; omega)) (by omega)
      · have hs := HSZ.out
        exact ((((HB3.out.trans (HBX.out.mono (by omega))).setCell (p := ⟨q, j, none⟩) (by show w.heap.size ≤ q; omega) _).setCell (p := ⟨w.heap.size + 1 + 1, 0, none⟩) (by show w.heap.size ≤ w.heap.size + 1 + 1; omega) _).setCell (p := ⟨w.heap.size + 1 + 1, 1, none⟩) (by show w.heap.size ≤ w.heap.size + 1 + 1; omega) _).setCell (p := ⟨w.heap.size + 1 + 1, 2, none⟩) (by show w.heap.size ≤ w.heap.size + 1 + 1; omega) _
    · have b1 : (call == [98]) = false := by simpa using c1
      by_cases c2 : call = [115]
      · have b2 : (call == [115]) = true := by simpa using c2
        have HR := hid (calledL_s (cs := cs) (k1, k2) h1)
        rw [← c2] at HR
        clear c1 c2
        go_wp2
        refine bodyPost_ret (v := .agg #[.string (bs nm), .int .i64 st, .slice (some ⟨q, 0, none⟩) (j + 1) c5]) (by simp [results, Tryz.results62, go_sem, r0, r1, r2, hne, hne', hq2, hq2']) rfl ⟨_, rfl, ?_, ?_⟩
        · have h2 := (HO.out.stored j (.string (bs k2))).1
          rw [strV_set, show j = cs.length - 1 by rw [hl.out]; omega, ← HR.out] at h2
          rw [show (⟨nm, st, calledL cs (k1, k2) call⟩ : Meth).ch.length = j + 1 by rw [calledL_len _ _ h1, hl.out]]
          rw [show cs.length - 1 = j by rw [hl.out]; omega] at h2
          have hs := HSZ.out
          exact own_mono (own_set (own_set (own_set h2 (by show w.heap.size + 1 + 1 < _; omega)) (by show w.heap.size + 1 + 1 < _; omega)) (by show w.heap.size + 1 + 1 < _; omega)) (by omega)
        · have hs := HSZ.out
          exact ((((HB3.out.trans (HBX.out.mono (by omega))).setCell (p := ⟨q, j, none⟩) (by show w.heap.size ≤ q; omega) _).setCell (p := ⟨w.heap.size + 1 + 1, 0, none⟩) (by show w.heap.size ≤ w.heap.size + 1 + 1; omega) _).setCell (p := ⟨w.heap.size + 1 + 1, 1, none⟩) (by show w.heap.size ≤ w.heap.size + 1 + 1; omega) _).setCell (p := ⟨w.heap.size + 1 + 1, 2, none⟩) (by show w.heap.size ≤ w.heap.size + 1 + 1; omega) _
      · have b2 : (call == [115]) = false := by simpa using c2
        have HR := hid (calledL_p (cs := cs) (k1, k2) call h1 c1 c2)
        clear c1 c2
        go_wp2
        refine bodyPost_ret (v := .agg #[.string (bs nm), .int .i64 st, .slice (some ⟨q, 0, none⟩) (j + 1) c5]) (by simp [results, Tryz.results62, go_sem, r0, r1, r2, hne, hne', hq2, hq2']) rfl ⟨_, rfl, ?_, ?_⟩
        · have h2 := HO.out
          rw [show (⟨nm, st, calledL cs (k1, k2) call⟩ : Meth).ch = cs from HR.out, hl.out]
          have hs := HSZ.out
          exact own_mono (own_set (own_set (own_set h2 (by show w.heap.size + 1 + 1 < _; omega)) (by show w.heap.size + 1 + 1 < _; omega)) (by show w.heap.size + 1 + 1 < _; omega)) (by omega)
        · have hs := HSZ.out
          exact (((HB3.out.trans (HBX.out.mono (by omega))).setCell (p := ⟨w.heap.size + 1 + 1, 0, none⟩) (by show w.heap.size ≤ w.heap.size + 1 + 1; omega) _).setCell (p := ⟨w.heap.size + 1 + 1, 1, none⟩) (by show w.heap.size ≤ w.heap.size + 1 + 1; omega) _).setCell (p := ⟨w.heap.size + 1 + 1, 2, none⟩) (by show w.heap.size ≤ w.heap.size + 1 + 1; omega) _
theorem l8Change_any (nm call : List UInt8) (st : Int) (cs : List (List UInt8)) (k : List UInt8 × List UInt8) (A : Option Addr) (n c : Nat) (w : World) (hr : Rd w A n (strV cs)) (hn : n ≤ 1048576) (h1 : 1 ≤ cs.length) :
    Calls Tryz.prog 55 #[.agg #[.string (bs nm), .int .i64 st, .slice A n c], .agg #[.string (bs k.1), .string (bs k.2)], .string (bs call)] w fun e w' => e = .returned (.string (bs (lastC cs k call))) ∧ Below w.heap.size w w' := by
  obtain ⟨k1, k2⟩ := k
  have hl : cs.length = n := by have := hr.1; rw [strV_len] at this; exact this
  obtain ⟨j, rfl⟩ : ∃ j, n = j + 1 := ⟨n - 1, by omega⟩
  obtain ⟨b, o, rfl, hk, hc⟩ := hr.str (show j < j + 1 by omega)
  by_cases c1 : call = [98]
  · subst c1
    go_enter Tryz.func55, Tryz.ntmps55
    go_wp2
    go_ret
    exact ⟨rfl, ((Below.refl _ _).alloc (Nat.le_refl _) _).alloc (by simp) _⟩
  · by_cases c2 : call = [115]
    · subst c2
      go_enter Tryz.func55, Tryz.ntmps55
      go_wp2
      go_ret
      exact ⟨rfl, ((Below.refl _ _).alloc (Nat.le_refl _) _).alloc (by simp) _⟩
    · have HR := hid (show cs[j] = lastC cs (k1, k2) call by
        unfold lastC
        rw [if_neg c1, if_neg c2, hl]
        simp [List.getD, hk])
      have b1 : (call == [98]) = false := by simpa using c1
      have b2 : (call == [115]) = false := by simpa using c2
      have i0 : (0 : Int) ≤ (j : Int) := by omega
      have hw0 : wrap64 (j : Int) = (j : Int) := by unfold wrap64; omega
      have hc' : ∀ o1 o2, ((w.alloc o1).alloc o2).cell? ⟨b, o + j, none⟩ = some (.string (bs cs[j])) := fun o1 o2 => (((Below.refl _ _).alloc (Nat.le_refl _) o1).trans ((Below.refl (w.alloc o1).heap.size (w.alloc o1)).alloc (Nat.le_refl _) o2 |>.mono (by simp)) |>.cell (World.block_lt_of_cell? w _ hc)).trans hc
      clear c1 c2 hr h1 hl hc
      go_enter Tryz.func55, Tryz.ntmps55
      go_wp2
      go_ret
      exact ⟨ret_str HR.out, ((Below.refl _ _).alloc (Nat.le_refl _) _).alloc (by simp) _⟩
end Go.Proofs.YtihaopijnkiafaaGreatDoor
