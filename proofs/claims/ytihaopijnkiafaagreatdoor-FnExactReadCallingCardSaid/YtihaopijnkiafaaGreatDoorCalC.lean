/- Contracts of a touch's calling: the small functions, in the reference and in the program. No conditions beyond those stated. -/
import Derived.Test.YtihaopijnkiafaaGreatDoorCalBase
import Derived.Test.YtihaopijnkiafaaGreatDoorShelf
set_option linter.unusedVariables false
set_option linter.unusedSimpArgs false
set_option maxRecDepth 100000
namespace Go.Proofs.YtihaopijnkiafaaGreatDoor
open Go.RowKit

theorem placeOf_any (r : List UInt8) (bell : Int) (w : World) (hr : IsRow r) :
    Calls Tryz.prog 45 #[.string (bs r), .int .i64 bell] w fun e w' => e = .returned (.int .i64 (placeL r bell : Int)) ∧ w = w' := by
  have h8 := hr.hi
  have HR := hid hr
  clear hr
  go_enter Tryz.func45, Tryz.ntmps45
  go_wp2
  go_loopg [8] r.length (fun gk u wr => ∃ j : Nat, j ≤ r.length ∧ gk = r.length - j ∧ u = .int .i64 (j : Int) ∧ Hid (firstAt (hereB r bell) j = none) ∧ w = wr)
  case atStart => exact ⟨0, by omega, by omega, rfl, hid rfl, rfl⟩
  case round =>
    obtain ⟨j, hj, rfl, rfl, hno, rfl⟩ := hrel
    by_cases hlt : j < r.length
    · have hrg := HR.out.rng j hlt
      rw [gd_at _ _ hlt] at hrg
      have hsub : ((r[j].toNat : Int) - 48 == bell) = hereB r bell j := by unfold hereB; rw [gd_at _ _ hlt]
      have i0 : (0 : Int) ≤ (j : Int) := by omega
      have i1 : (j : Int) < (r.length : Int) := by omega
      cases hb : hereB r bell j
      · rw [hb] at hsub
        have HN := hid (firstAt_no hno.out hb)
        clear hb
        go_wp2
        go_roundg (r.length - (j + 1))
        case measure => omega
        case rel => exact ⟨j + 1, by omega, rfl, by go_num, HN, rfl⟩
      · rw [hb] at hsub
        have HP := hid (placeL_yes hno.out hb hlt)
        clear hb
        go_wp2
        go_ret
        exact ⟨by rw [HP.out]; congr 2, rfl⟩
    · obtain rfl : j = r.length := by omega
      have HP := hid (placeL_no hno.out)
      go_wp2
      go_ret
      exact ⟨by rw [HP.out]; rfl, rfl⟩
theorem l5Place_any (r : List UInt8) (bell : Int) (w : World) (hr : IsRow r) :
    Calls Tryz.prog 52 #[.string (bs r), .int .i64 bell] w fun e w' => e = .returned (.int .i64 (placeL r bell : Int)) ∧ w = w' := by
  have h8 := hr.hi
  have HR := hid hr
  clear hr
  go_enter Tryz.func52, Tryz.ntmps52
  go_wp2
  go_loopg [5] r.length (fun gk u wr => ∃ j : Nat, j ≤ r.length ∧ gk = r.length - j ∧ u = .int .i64 ((j : Int) + 1) ∧ Hid (firstAt (hereB r bell) j = none) ∧ w = wr)
  case atStart => exact ⟨0, by omega, by omega, rfl, hid rfl, rfl⟩
  case round =>
    obtain ⟨j, hj, rfl, rfl, hno, rfl⟩ := hrel
    by_cases hlt : j < r.length
    · have hrg := HR.out.rng j hlt
      rw [gd_at _ _ hlt] at hrg
      have hsub : ((r[j].toNat : Int) - 48 == bell) = hereB r bell j := by unfold hereB; rw [gd_at _ _ hlt]
      have hAT := hid (fun w => l1At_any r j ((j : Int) + 1) w hlt (by omega) rfl (by omega))
      generalize (r[j].toNat : Int) - 48 = V at *
      cases hb : hereB r bell j
      · rw [hb] at hsub
        have HN := hid (firstAt_no hno.out hb)
        clear hb
        go_wp2_with fail
        refine (hAT.out _).mono ?_
        rintro e w' ⟨rfl, rfl⟩
        go_wp2
        go_roundg (r.length - (j + 1))
        case measure => omega
        case rel => exact ⟨j + 1, by omega, rfl, by go_num, HN, rfl⟩
      · rw [hb] at hsub
        have HP := hid (placeL_yes hno.out hb hlt)
        clear hb
        go_wp2_with fail
        refine (hAT.out _).mono ?_
        rintro e w' ⟨rfl, rfl⟩
        go_wp2
        go_ret
        exact ⟨by rw [HP.out]; congr 2, rfl⟩
    · obtain rfl : j = r.length := by omega
      have HP := hid (placeL_no hno.out)
      go_wp2
      go_ret
      exact ⟨by rw [HP.out]; rfl, rfl⟩
theorem dec_digits (n : Nat) (h : n < 100) : Lib.decDigits n = decL n := by
  revert n; decide +kernel
theorem decimal2_any (n : Nat) (w : World) (h : n < 100) :
    Calls Tryz.prog 48 #[.int .i64 n] w fun e w' => e = .returned (.string (bs (decL n))) ∧ w = w' := by
  have HI := hid (Tryz.strconv_Itoa_small n h w)
  rw [dec_digits n h] at HI
  generalize decL n = D at *
  go_enter Tryz.func48, Tryz.ntmps48
  go_wp2_with fail
  refine HI.out.mono ?_
  rintro e w' ⟨rfl, hw⟩
  have HW := hid hw
  clear hw
  go_wp2
  go_ret
  exact ⟨rfl, by first | exact HW.out | exact HW.out.symm⟩
theorem l1NumS_any (n : Nat) (w : World) (h : n ≤ 9) :
    Calls Tryz.prog 35 #[.int .i64 n] w fun e w' => e = .returned (.string (bs [dgt n])) ∧ Below w.heap.size w w' := by
  have hu : (dgt n).toNat = 48 + n := by rw [dgt, UInt8.toNat_ofNat']; omega
  have i1 : (n : Int) < 10 := by omega
  have e8 : (48 + (n : Int)) = (((dgt n).toNat : Nat) : Int) := by rw [hu]; omega
  have hcv : (convert 64 9 (.slice (some ⟨w.heap.size, 0, none⟩) 1 1)).run Tryz.prog (w.alloc (.cells #[.int .u8 (48 + (n : Int))] 5)) = .ok (.string (bs [dgt n])) (w.alloc (.cells #[.int .u8 (48 + (n : Int))] 5)) := by
    rw [e8]
    refine run_convert_bytes_back _ _ _ _ ⟨w.heap.size, 0, none⟩ 1 [dgt n] Tryz.underlying64 Tryz.underlying5 Tryz.underlying9 ?_
    intro j hj
    obtain rfl : j = 0 := by simpa using hj
    simp [Addr.add]
  clear hu e8
  go_enter Tryz.func35, Tryz.ntmps35
  go_wp2
  go_ret
  exact ⟨rfl, (Below.refl _ _).alloc (Nat.le_refl _) _⟩
set_option maxHeartbeats 1000000 in
theorem l1NumB_any (n : Nat) (w : World) (h0 : ¬ n ≤ 9) (h : n < 100) :
    Calls Tryz.prog 35 #[.int .i64 n] w fun e w' => e = .returned (.string (bs [dgt (n / 10), dgt (n % 10)])) ∧ Below w.heap.size w w' := by
  have i1 : ¬ (n : Int) < 10 := by omega
  have G := fun (w0 : World) => hid (l1NumS_any (n / 10) w0 (by omega))
  have hq : (n : Int).tdiv 10 = ((n / 10 : Nat) : Int) := by rw [Int.tdiv_eq_ediv_of_nonneg (by omega)]; omega
  have hr : (n : Int).tmod 10 = ((n % 10 : Nat) : Int) := by rw [Int.tmod_eq_emod_of_nonneg (by omega)]; omega
  have hu : (dgt (n % 10)).toNat = 48 + n % 10 := by rw [dgt, UInt8.toNat_ofNat']; omega
  obtain ⟨a, ha⟩ : ∃ a, a = n / 10 := ⟨_, rfl⟩
  obtain ⟨b, hb⟩ : ∃ b, b = n % 10 := ⟨_, rfl⟩
  have ha9 : a ≤ 9 := by omega
  have hb9 : b ≤ 9 := by omega
  rw [← ha] at G ⊢
  rw [← hb] at hu hr ⊢
  clear hq
  have hcv : ∀ (g : Nat) (W : World), W.cell? ⟨g, 0, none⟩ = some (.int .u8 (48 + (b : Int))) → (convert 64 9 (.slice (some ⟨g, 0, none⟩) 1 1)).run Tryz.prog W = .ok (.string (bs [dgt b])) W := by
    intro g W hc
    refine run_convert_bytes_back _ _ _ _ ⟨g, 0, none⟩ 1 [dgt b] Tryz.underlying64 Tryz.underlying5 Tryz.underlying9 ?_
    intro j hj
    obtain rfl : j = 0 := by simpa using hj
    rw [show (⟨g, 0, none⟩ : Addr).add 0 = ⟨g, 0, none⟩ from rfl, hc]
    simp [hu]
  go_enter Tryz.func35, Tryz.ntmps35
  go_wp2_with fail
  have hw5 : (n : Int) % 10 = (b : Int) := by omega
  have hw6 : (n : Int) / 10 = (a : Int) := by omega
  have hw7 : IntKind.i64.wrap (a : Int) = (a : Int) := IntWalk.i64_in _ (by omega)
  have hw8 : IntKind.i64.wrap (b : Int) = (b : Int) := IntWalk.i64_in _ (by omega)
  clear ha hb h0 h hu
  have hw1 : IntKind.i64.wrap (48 + (b : Int)) = 48 + (b : Int) := IntWalk.i64_in _ (by omega)
  have hw2 : IntKind.u8.wrap (48 + (b : Int)) = 48 + (b : Int) := IntWalk.u8_in _ (by omega)
  refine wp_region_held_drew (S := fun w' => True) (by kernel_rfl) trivial (fun hHeld => ?_)
  refine wpAnyH_take (i := 0) (v := ?_) rfl (by kernel_rfl) (by kernel_rfl) (by kernel_rfl) (fun _ _ _ h => h) (Or.inl ⟨by rfl, ?_⟩) trivial ?_
  rotate_left
  · (intro w hSw; (try dsimp only at hSw); go_simp; with_reducible rfl)
  try simp only [Act.put, List.setIfInBounds_toArray, List.set_cons_zero, List.set_cons_succ]
  refine wpAnyH_take (i := 1) (v := ?_) rfl (by kernel_rfl) (by kernel_rfl) (by kernel_rfl) (fun _ _ _ h => h) (Or.inl ⟨by rfl, ?_⟩) trivial ?_
  rotate_left
  · (intro w hSw; (try dsimp only at hSw); go_simp; with_reducible rfl)
  try simp only [Act.put, List.setIfInBounds_toArray, List.set_cons_zero, List.set_cons_succ]
  refine wpAnyH_take (i := 3) (v := ?_) rfl (by kernel_rfl) (by kernel_rfl) (by kernel_rfl) (fun _ _ _ h => h) (Or.inl ⟨by rfl, ?_⟩) trivial ?_
  rotate_left
  · (intro w hSw; (try dsimp only at hSw); go_simp; with_reducible rfl)
  try simp only [Act.put, List.setIfInBounds_toArray, List.set_cons_zero, List.set_cons_succ]
  refine wpAnyH_take (i := 4) (v := ?_) rfl (by kernel_rfl) (by kernel_rfl) (by kernel_rfl) (fun _ _ _ h => h) (Or.inl ⟨by rfl, ?_⟩) trivial ?_
  rotate_left
  · (intro w hSw; (try dsimp only at hSw); go_simp; with_reducible rfl)
  try simp only [Act.put, List.setIfInBounds_toArray, List.set_cons_zero, List.set_cons_succ]
  refine wpAnyH_take (i := 5) (v := ?_) rfl (by kernel_rfl) (by kernel_rfl) (by kernel_rfl) (fun _ _ _ h => h) (Or.inl ⟨by rfl, ?_⟩) trivial ?_
  rotate_left
  · (intro w hSw; (try dsimp only at hSw); go_simp; with_reducible rfl)
  try simp only [Act.put, List.setIfInBounds_toArray, List.set_cons_zero, List.set_cons_succ]
  refine wpAnyH_take (i := 6) (v := ?_) rfl (by kernel_rfl) (by kernel_rfl) (by kernel_rfl) (fun _ _ _ h => h) (Or.inl ⟨by rfl, ?_⟩) trivial ?_
  rotate_left
  · (intro w hSw; (try dsimp only at hSw); go_simp; with_reducible rfl)
  try simp only [Act.put, List.setIfInBounds_toArray, List.set_cons_zero, List.set_cons_succ]
  refine wpAnyH_ready (rs := [2, 7]) (by kernel_rfl) (by simp) ?_
  refine AllReadyH.cons rfl (fun K hK => ?_) (AllReadyH.cons rfl (fun K hK => ?_) AllReadyH.nil)
  · go_simp
    go_at_call 35
    (try rw [hw7])
    refine (G _).out.mono ?_
    rintro e wa ⟨rfl, ba⟩
    go_wp2_with fail
    refine hK.out _ _ trivial (fun hHx => ?_)
    clear hHx hK K
    try simp only [Act.put, List.setIfInBounds_toArray, List.set_cons_zero, List.set_cons_succ]
    have hcc := hcv wa.heap.size (wa.alloc (.cells #[.int .u8 (48 + (b : Int))] 5)) (by have := (Blk.new wa 5 #[.int .u8 (48 + (b : Int))]).cell 0; exact this)
    refine wpAnyH_ready (rs := [7]) (by kernel_rfl) (by simp) ?_
    refine AllReadyH.cons rfl (fun K hK => ?_) AllReadyH.nil
    go_simp
    refine hK.out _ _ trivial (fun hHx => ?_)
    clear hHx hK K
    try simp only [Act.put, List.setIfInBounds_toArray, List.set_cons_zero, List.set_cons_succ]
    refine wpAnyH_ready (rs := [8]) (by kernel_rfl) (by simp) ?_
    refine AllReadyH.cons rfl (fun K hK => ?_) AllReadyH.nil
    go_simp
    refine hK.out _ _ trivial (fun hHx => ?_)
    clear hHx hK K
    try simp only [Act.put, List.setIfInBounds_toArray, List.set_cons_zero, List.set_cons_succ]
    refine wpAnyH_ready (rs := [9]) (by kernel_rfl) (by simp) ?_
    refine AllReadyH.cons rfl (fun K hK => ?_) AllReadyH.nil
    go_simp
    refine hK.out _ _ trivial (fun hHx => ?_)
    clear hHx hK K
    try simp only [Act.put, List.setIfInBounds_toArray, List.set_cons_zero, List.set_cons_succ]
    refine wpAnyH_ready (rs := [10]) (by kernel_rfl) (by simp) ?_
    refine AllReadyH.cons rfl (fun K hK => ?_) AllReadyH.nil
    go_simp
    refine hK.out _ _ trivial (fun hHx => ?_)
    clear hHx hK K
    try simp only [Act.put, List.setIfInBounds_toArray, List.set_cons_zero, List.set_cons_succ]
    refine wpAnyH_done (by kernel_rfl) ?_ _
    go_wp2
    go_ret
    exact ⟨by first | rfl | simp, (((Below.refl w.heap.size w).drew).trans (ba.mono (Nat.le_refl _))).alloc (ba.size) _⟩
  · go_simp
    refine hK.out _ _ trivial (fun hHx => ?_)
    clear hHx hK K
    try simp only [Act.put, List.setIfInBounds_toArray, List.set_cons_zero, List.set_cons_succ]
    refine wpAnyH_ready (rs := [2, 8]) (by kernel_rfl) (by simp) ?_
    refine AllReadyH.cons rfl (fun K hK => ?_) (AllReadyH.cons rfl (fun K hK => ?_) AllReadyH.nil)
    · go_simp
      go_at_call 35
      (try rw [hw7])
      refine (G _).out.mono ?_
      rintro e wa ⟨rfl, ba⟩
      go_wp2_with fail
      refine hK.out _ _ trivial (fun hHx => ?_)
      clear hHx hK K
      try simp only [Act.put, List.setIfInBounds_toArray, List.set_cons_zero, List.set_cons_succ]
      have hcc := hcv w.heap.size wa (by have h0 := (Blk.new w 5 #[.int .u8 (48 + (b : Int))]); have h1 := Blk.drewN h0 1; have := (Blk.below h1 ba h0.lt).cell 0; exact this)
      refine wpAnyH_ready (rs := [8]) (by kernel_rfl) (by simp) ?_
      refine AllReadyH.cons rfl (fun K hK => ?_) AllReadyH.nil
      go_simp
      refine hK.out _ _ trivial (fun hHx => ?_)
      clear hHx hK K
      try simp only [Act.put, List.setIfInBounds_toArray, List.set_cons_zero, List.set_cons_succ]
      refine wpAnyH_ready (rs := [9]) (by kernel_rfl) (by simp) ?_
      refine AllReadyH.cons rfl (fun K hK => ?_) AllReadyH.nil
      go_simp
      refine hK.out _ _ trivial (fun hHx => ?_)
      clear hHx hK K
      try simp only [Act.put, List.setIfInBounds_toArray, List.set_cons_zero, List.set_cons_succ]
      refine wpAnyH_ready (rs := [10]) (by kernel_rfl) (by simp) ?_
      refine AllReadyH.cons rfl (fun K hK => ?_) AllReadyH.nil
      go_simp
      refine hK.out _ _ trivial (fun hHx => ?_)
      clear hHx hK K
      try simp only [Act.put, List.setIfInBounds_toArray, List.set_cons_zero, List.set_cons_succ]
      refine wpAnyH_done (by kernel_rfl) ?_ _
      go_wp2
      go_ret
      exact ⟨by first | rfl | simp, ((Below.refl w.heap.size w).alloc (Nat.le_refl _) (.cells #[.int .u8 (48 + (b : Int))] 5)).drew.trans (ba.mono ((Below.refl w.heap.size w).alloc (Nat.le_refl _) (.cells #[.int .u8 (48 + (b : Int))] 5)).size)⟩
    · have hcc := hcv w.heap.size (w.alloc (.cells #[.int .u8 (48 + (b : Int))] 5)).drew (by have := (Blk.new w 5 #[.int .u8 (48 + (b : Int))]).cell 0; exact this)
      go_simp
      refine hK.out _ _ trivial (fun hHx => ?_)
      clear hHx hK K
      try simp only [Act.put, List.setIfInBounds_toArray, List.set_cons_zero, List.set_cons_succ]
      refine wpAnyH_ready (rs := [2]) (by kernel_rfl) (by simp) ?_
      refine AllReadyH.cons rfl (fun K hK => ?_) AllReadyH.nil
      go_simp
      go_at_call 35
      (try rw [hw7])
      refine (G _).out.mono ?_
      rintro e wa ⟨rfl, ba⟩
      go_wp2_with fail
      refine hK.out _ _ trivial (fun hHx => ?_)
      clear hHx hK K
      try simp only [Act.put, List.setIfInBounds_toArray, List.set_cons_zero, List.set_cons_succ]
      refine wpAnyH_ready (rs := [9]) (by kernel_rfl) (by simp) ?_
      refine AllReadyH.cons rfl (fun K hK => ?_) AllReadyH.nil
      go_simp
      refine hK.out _ _ trivial (fun hHx => ?_)
      clear hHx hK K
      try simp only [Act.put, List.setIfInBounds_toArray, List.set_cons_zero, List.set_cons_succ]
      refine wpAnyH_ready (rs := [10]) (by kernel_rfl) (by simp) ?_
      refine AllReadyH.cons rfl (fun K hK => ?_) AllReadyH.nil
      go_simp
      refine hK.out _ _ trivial (fun hHx => ?_)
      clear hHx hK K
      try simp only [Act.put, List.setIfInBounds_toArray, List.set_cons_zero, List.set_cons_succ]
      refine wpAnyH_done (by kernel_rfl) ?_ _
      go_wp2
      go_ret
      exact ⟨by first | rfl | simp, ((Below.refl w.heap.size w).alloc (Nat.le_refl _) (.cells #[.int .u8 (48 + (b : Int))] 5)).drew.trans (ba.mono ((Below.refl w.heap.size w).alloc (Nat.le_refl _) (.cells #[.int .u8 (48 + (b : Int))] 5)).size)⟩
theorem l1Num_any (n : Nat) (w : World) (h : n < 100) :
    Calls Tryz.prog 35 #[.int .i64 n] w fun e w' => e = .returned (.string (bs (decL n))) ∧ Below w.heap.size w w' := by
  by_cases h0 : n ≤ 9
  · rw [decL_small h0]; exact l1NumS_any n w h0
  · rw [decL_big h0]; exact l1NumB_any n w h0 h
theorem join_any (A : Option Addr) (n c : Nat) (l : List (List UInt8)) (sep : List UInt8) (w : World) (hr : Rd w A n (strV l)) (hcap : n ≤ c) (hn : n ≤ 1000000) (hlen : (Lib.join l sep).length ≤ 1000000) :
    Calls Tryz.prog 73 #[.slice A n c, .string (bs sep)] w fun e w' => e = .returned (.string (bs (Lib.join l sep))) ∧ Below w.heap.size w w' := by
  have hln : l.length = n := by have := hr.1; rw [strV_len] at this; exact this
  by_cases h0 : n = 0
  · subst h0
    rw [List.eq_nil_of_length_eq_zero hln]
    exact (Tryz.strings_Join_none A c (bs sep) w).mono fun e w' ⟨he, hw⟩ => ⟨he, hw ▸ Below.refl _ _⟩
  · obtain ⟨b, o, rfl, hc⟩ := hr.2 (by omega)
    have hcells : ∀ (j : Nat) x, (l.map bs)[j]? = some x → w.cell? ⟨b, o + j, none⟩ = some (.string x) := fun j x hx => hc j _ (by
      simp only [strV, List.getElem?_map, Option.map_eq_some_iff] at hx ⊢
      obtain ⟨s, hs, rfl⟩ := hx
      exact ⟨s, hs, rfl⟩)
    have hm : (l.map bs).map (·.data.toList) = l := by
      rw [List.map_map]
      exact (List.map_congr_left fun s _ => by simp [bs]).trans (List.map_id _)
    have hb0 : b < w.heap.size := by
      obtain ⟨b', o', e', hc0⟩ := hr.at_ (k := 0) (by omega)
      injection e' with e'
      injection e' with e1 e2
      rw [e1]
      exact World.block_lt_of_cell? w _ hc0
    have h := Tryz.strings_Join b o c (l.map bs) (bs sep) w hcells hb0 (by rw [List.length_map]; omega) (by rw [List.length_map]; omega) (by rw [hm, show (bs sep).data.toList = sep by simp [bs]]; omega)
    rw [hm, show (bs sep).data.toList = sep by simp [bs], List.length_map, hln] at h
    exact h
theorem joined_any (A : Option Addr) (n c : Nat) (l : List (List UInt8)) (sep : List UInt8) (w : World) (hr : Rd w A n (strV l)) (hcap : n ≤ c) (hn : n ≤ 1000000) (hlen : (Lib.join l sep).length ≤ 1000000) :
    Calls Tryz.prog 49 #[.slice A n c, .string (bs sep)] w fun e w' => e = .returned (.string (bs (Lib.join l sep))) ∧ Below w.heap.size w w' := by
  have HI := hid (join_any A n c l sep w hr hcap hn hlen)
  clear hr hlen
  generalize Lib.join l sep = J at *
  go_enter Tryz.func49, Tryz.ntmps49
  go_wp2_with fail
  refine HI.out.mono ?_
  rintro e w' ⟨rfl, hw⟩
  have HW := hid hw
  clear hw
  go_wp2
  go_ret
  exact ⟨rfl, HW.out⟩
theorem isBell_any (n bell : Int) (w : World) :
    Calls Tryz.prog 22 #[.int .i64 n, .int .i64 bell] w fun e w' => e = .returned (.bool (decide (1 ≤ bell) && decide (bell ≤ n))) ∧ w = w' := by
  by_cases h1 : 1 ≤ bell <;> by_cases h2 : bell ≤ n
  all_goals go_enter Tryz.func22, Tryz.ntmps22
  all_goals go_wp2
  all_goals go_ret
  all_goals exact ⟨ret_bool (by simp [*]), rfl⟩
set_option maxHeartbeats 1000000 in
theorem l10Place_any (N : Nat) (nm fr : List UInt8) (call : List UInt8) (bell : Int) (ch : List (List UInt8)) (k : List UInt8 × List UInt8) (A : Option Addr) (n c : Nat) (w : World) (lo : 3 ≤ N) (hi : N ≤ 8) (hr : Rd w A n (strV ch)) (hn : n ≤ 1048576) (hcap : n ≤ c) (l1 : 1 ≤ ch.length) (hs : ∀ x ∈ ch, okChange (N : Int) x = true) (hb1 : okChange (N : Int) k.1 = true) (hb2 : okChange (N : Int) k.2 = true) (hf : IsRow fr) (hfl : fr.length = N) :
    Calls Tryz.prog 31 #[.agg #[.string (bs nm), .int .i64 N, .slice A n c], .agg #[.string (bs k.1), .string (bs k.2)], .string (bs fr), .string (bs call), .int .i64 bell] w fun e w' => e = .returned (.int .i64 (placeL (timesL fr (callHeadL N ch k call)) bell : Int)) ∧ Below w.heap.size w w' := by
  have GH := fun (w0 : World) (rd : Rd w0 A n (strV ch)) => hid (l8Head_any N nm call ch k A n c w0 lo hi rd hn hcap l1 hs hb1 hb2)
  have hcr := callHeadL_row lo hi ch k call
  have GT := fun (w0 : World) => hid (l1Times_any fr (callHeadL N ch k call) w0 hf hcr (by rw [hfl, callHeadL_len]))
  have GP := fun (w0 : World) => hid (l5Place_any (timesL fr (callHeadL N ch k call)) bell w0 (times_row hf hcr (by rw [hfl, callHeadL_len])))
  have RS := hid hr
  generalize placeL (timesL fr (callHeadL N ch k call)) bell = PL at *
  generalize timesL fr (callHeadL N ch k call) = TM at *
  generalize callHeadL N ch k call = CH at *
  obtain ⟨k1, k2⟩ := k
  dsimp only at *
  clear hr hs hb1 hb2 hf hcr
  go_enter Tryz.func31, Tryz.ntmps31
  go_wp2_with fail
  obtain ⟨B2, hsz, HC⟩ := box_mk w nm k1 k2 (N : Int) (.slice A n c)
  refine (GH _ (RS.out.below B2)).out.mono ?_
  rintro e w1 ⟨rfl, b1⟩
  have HB := hid (B2.trans (b1.mono B2.size))
  clear b1 B2 hsz HC
  go_wp2_with fail
  refine (GT _).out.mono ?_
  rintro e w2 ⟨rfl, rfl⟩
  go_wp2_with fail
  refine (GP _).out.mono ?_
  rintro e w2 ⟨rfl, rfl⟩
  go_wp2
  go_ret
  exact ⟨rfl, HB.out⟩
theorem l10Asked_any (m : Meth) (k : List UInt8 × List UInt8) (q : Int) (A : Option Addr) (n c : Nat) (w : World) (ok : LawOk m k) (rd : Rd w A n (strV m.ch)) :
    Calls Tryz.prog 12 #[.agg #[.string (bs m.nm), .int .i64 m.st, .slice A n c], .agg #[.string (bs k.1), .string (bs k.2)], .int .i64 q] w fun e w' => e = .returned (.bool (callsB m k && (decide (1 ≤ q) && decide (q ≤ m.st)))) ∧ Below w.heap.size w w' := by
  have G := fun (w0 : World) (rd : Rd w0 A n (strV m.ch)) => hid (l8Good_law m k A n c w0 ok rd)
  have G2 := fun w0 => hid (l1In_any q 1 m.st w0)
  have RS := hid rd
  generalize callsB m k = P0 at *
  have hq : (decide (1 ≤ q) && decide (q ≤ m.st)) = (decide (1 ≤ q) && decide (q ≤ m.st)) := rfl
  obtain ⟨nm, st, ch⟩ := m
  obtain ⟨k1, k2⟩ := k
  dsimp only at *
  generalize (decide (1 ≤ q) && decide (q ≤ st)) = Q at *
  clear rd ok hq
  go_enter Tryz.func12, Tryz.ntmps12
  go_wp2_with fail
  obtain ⟨B2, hsz, HC⟩ := box_mk w nm k1 k2 st (.slice A n c)
  refine (G _ (RS.out.below B2)).out.mono ?_
  rintro e w1 ⟨rfl, b1⟩
  have HB := hid (B2.trans (b1.mono B2.size))
  obtain ⟨⟨m0, m1, m2⟩, q0, q1⟩ := HC.out _ b1
  clear b1 B2 hsz HC
  cases P0
  · go_wp2
    go_ret
    exact ⟨rfl, HB.out⟩
  · go_wp2_with fail
    refine (G2 _).out.mono ?_
    rintro e w2 ⟨rfl, rfl⟩
    go_wp2
    go_ret
    exact ⟨ret_bool (by simp), HB.out⟩
end Go.Proofs.YtihaopijnkiafaaGreatDoor
