/- Contract of ClashesIn in the reference. No conditions beyond those stated. -/
import Derived.Test.YtiajeheonoebnaaExpQ
set_option linter.unusedVariables false
set_option linter.unusedSimpArgs false
set_option maxRecDepth 100000
namespace Go.Proofs.Ytiajeheonoebnaa
open Go.RowKit

set_option maxHeartbeats 4000000 in
theorem specClashesIn_law (m : Meth) (l : List (List UInt8)) (A B : Option Addr) (n c d e0 : Nat) (w : World) (ok : LawOk m ([], [])) (rd : Rd w A n (strV m.ch)) (hcap : n ≤ c) (rh : Rd w B d (strV l)) (hd : l.length ≤ 1048576) (hs : ∀ s ∈ l, s.length ≤ 1048576) :
    Calls Try.prog 25 #[.agg #[.string (bs m.nm), .int .i64 m.st, .slice A n c], .slice B d e0] w (ResP w (clashesR m l)) := by
  have hn : n ≤ 1048576 := by have h1 := rd.1; have h2 := ok.2.2.1; rw [strV_len] at h1; omega
  have hld : l.length = d := by have h1 := rh.1; rw [strV_len] at h1; exact h1
  have GM := fun (w0 : World) (rd : Rd w0 A n (strV m.ch)) => hid (l4Good_any m A n c w0 ok.1 ok.2.1 rd hn ok.2.2.2.1)
  have GR := fun (w0 : World) (rh : Rd w0 B d (strV l)) => hid (l6Rows_any B d e0 l w0 rh (by omega) hs)
  have GI := fun (w0 : World) => hid (l1In_any (d : Int) 1 100 w0)
  have RS := hid rd
  have RH := hid rh
  have HOK := hid ok
  have HD := hid hld
  cases h0 : methB m
  · rw [h0] at GM
    have HR := hid (clashesR_no (m := m) (l := l) (by unfold clashB; rw [h0]; rfl))
    obtain ⟨nm, st, ch⟩ := m
    dsimp only at *
    clear rd rh ok hs h0 HOK hld GR GI
    go_enter Try.func25, Try.ntmps25
    go_wp2_with fail
    obtain ⟨B2, hsz, HC⟩ := box_mk1 28 w nm st (.slice A n c)
    have R2 := hid (RS.out.below B2)
    have RH2 := hid (RH.out.below B2)
    have HB2 := hid B2
    have hw2 := B2.size
    generalize (w.alloc (.cells #[.string (bs nm), .int .i64 st, .slice A n c] 28)) = W2 at *
    clear B2 hsz
    have HHS := hid (fun W' (h : Below W2.heap.size W2 W') => (show W'.cell? ⟨w.heap.size, 0, none⟩ = some (.string (bs nm)) ∧ W'.cell? ⟨w.heap.size, 1, none⟩ = some (.int .i64 st) ∧ W'.cell? ⟨w.heap.size, 2, none⟩ = some (.slice A n c) from by
      obtain ⟨a0, a1, a2⟩ := HC.out _ h
      exact ⟨a0, a1, a2⟩))
    clear HC
    have F0 : Below W2.heap.size W2 W2.drew := (Below.refl _ _).drew
    refine wp_region_held_drew (S := fun w' => w'.cell? ⟨w.heap.size, 0, none⟩ = some (.string (bs nm)) ∧ w'.cell? ⟨w.heap.size, 1, none⟩ = some (.int .i64 st) ∧ w'.cell? ⟨w.heap.size, 2, none⟩ = some (.slice A n c)) (by kernel_rfl) (HHS.out _ F0) (fun hHeld => ?_)
    refine wpAnyH_take (i := 0) (v := ?_) rfl (by kernel_rfl) (by kernel_rfl) (by kernel_rfl) (fun _ _ _ h => h) (Or.inl ⟨by rfl, ?_⟩) (by assumption) ?_
    rotate_left
    · (intro w hSw; (try dsimp only at hSw); go_simp; with_reducible rfl)
    try simp only [Act.put, List.setIfInBounds_toArray, List.set_cons_zero, List.set_cons_succ]
    refine wpAnyH_ready (rs := [1]) (by kernel_rfl) (by simp) ?_
    refine AllReadyH.cons rfl (fun K hK => ?_) AllReadyH.nil
    go_simp
    go_at_call 45
    refine ((GM _ (R2.out.below F0)).out).mono ?_
    rintro e wa ⟨rfl, ba⟩
    have Fa := F0.trans (ba.mono (Nat.le_refl _))
    go_wp2_with fail
    refine hK.out _ _ (HHS.out _ Fa) (fun hHx => ?_)
    clear hHx hK K hHeld
    try simp only [Act.put, List.setIfInBounds_toArray, List.set_cons_zero, List.set_cons_succ]
    refine wpAnyH_take (i := 2) (v := ?_) rfl (by kernel_rfl) (by kernel_rfl) (by kernel_rfl) (fun _ _ _ h => h) (Or.inl ⟨by rfl, ?_⟩) (HHS.out _ Fa) ?_
    rotate_left
    · (intro w hSw; (try dsimp only at hSw); go_simp; with_reducible rfl)
    try simp only [Act.put, List.setIfInBounds_toArray, List.set_cons_zero, List.set_cons_succ]
    refine wpAnyH_take (i := 3) (v := ?_) rfl (by kernel_rfl) (by kernel_rfl) (by kernel_rfl) (fun _ _ _ h => h) (Or.inl ⟨by rfl, ?_⟩) (HHS.out _ Fa) ?_
    rotate_left
    · (intro w hSw; (try dsimp only at hSw); go_simp; with_reducible rfl)
    try simp only [Act.put, List.setIfInBounds_toArray, List.set_cons_zero, List.set_cons_succ]
    refine wpAnyH_pass (i := 4) (d := some 10) (by kernel_rfl) (by kernel_rfl) (by kernel_rfl) (by kernel_rfl) (fun _ _ _ _ h => h) (by kernel_rfl) (HHS.out _ Fa) ?_
    try simp only [Act.put, List.setIfInBounds_toArray, List.set_cons_zero, List.set_cons_succ]
    refine wpAnyH_pass (i := 5) (d := some 11) (by kernel_rfl) (by kernel_rfl) (by kernel_rfl) (by kernel_rfl) (fun _ _ _ _ h => h) (by kernel_rfl) (HHS.out _ Fa) ?_
    try simp only [Act.put, List.setIfInBounds_toArray, List.set_cons_zero, List.set_cons_succ]
    refine wpAnyH_pass (i := 6) (d := some 12) (by kernel_rfl) (by kernel_rfl) (by kernel_rfl) (by kernel_rfl) (fun _ _ _ _ h => h) (by kernel_rfl) (HHS.out _ Fa) ?_
    try simp only [Act.put, List.setIfInBounds_toArray, List.set_cons_zero, List.set_cons_succ]
    refine wpAnyH_take (i := 7) (v := ?_) rfl (by kernel_rfl) (by kernel_rfl) (by kernel_rfl) (fun _ _ _ h => h) (Or.inl ⟨by rfl, ?_⟩) (HHS.out _ Fa) ?_
    rotate_left
    · (intro w hSw; (try dsimp only at hSw); go_simp; with_reducible rfl)
    try simp only [Act.put, List.setIfInBounds_toArray, List.set_cons_zero, List.set_cons_succ]
    refine wpAnyH_take (i := 8) (v := ?_) rfl (by kernel_rfl) (by kernel_rfl) (by kernel_rfl) (fun _ _ _ h => h) (Or.inl ⟨by rfl, ?_⟩) (HHS.out _ Fa) ?_
    rotate_left
    · (intro w hSw; (try dsimp only at hSw); go_simp; with_reducible rfl)
    try simp only [Act.put, List.setIfInBounds_toArray, List.set_cons_zero, List.set_cons_succ]
    refine wpAnyH_pass (i := 9) (d := some 15) (by kernel_rfl) (by kernel_rfl) (by kernel_rfl) (by kernel_rfl) (fun _ _ _ _ h => h) (by kernel_rfl) (HHS.out _ Fa) ?_
    try simp only [Act.put, List.setIfInBounds_toArray, List.set_cons_zero, List.set_cons_succ]
    refine wpAnyH_pass (i := 10) (d := some 16) (by kernel_rfl) (by kernel_rfl) (by kernel_rfl) (by kernel_rfl) (fun _ _ _ _ h => h) (by kernel_rfl) (HHS.out _ Fa) ?_
    try simp only [Act.put, List.setIfInBounds_toArray, List.set_cons_zero, List.set_cons_succ]
    refine wpAnyH_pass (i := 11) (d := some 17) (by kernel_rfl) (by kernel_rfl) (by kernel_rfl) (by kernel_rfl) (fun _ _ _ _ h => h) (by kernel_rfl) (HHS.out _ Fa) ?_
    try simp only [Act.put, List.setIfInBounds_toArray, List.set_cons_zero, List.set_cons_succ]
    refine wpAnyH_pass (i := 12) (d := some 18) (by kernel_rfl) (by kernel_rfl) (by kernel_rfl) (by kernel_rfl) (fun _ _ _ _ h => h) (by kernel_rfl) (HHS.out _ Fa) ?_
    try simp only [Act.put, List.setIfInBounds_toArray, List.set_cons_zero, List.set_cons_succ]
    refine wpAnyH_take (i := 13) (v := ?_) rfl (by kernel_rfl) (by kernel_rfl) (by kernel_rfl) (fun _ _ _ h => h) (Or.inl ⟨by rfl, ?_⟩) (HHS.out _ Fa) ?_
    rotate_left
    · (intro w hSw; (try dsimp only at hSw); go_simp; with_reducible rfl)
    try simp only [Act.put, List.setIfInBounds_toArray, List.set_cons_zero, List.set_cons_succ]
    refine wpAnyH_take (i := 14) (v := ?_) rfl (by kernel_rfl) (by kernel_rfl) (by kernel_rfl) (fun _ _ _ h => h) (Or.inl ⟨by rfl, ?_⟩) (HHS.out _ Fa) ?_
    rotate_left
    · (intro w hSw; (try dsimp only at hSw); go_simp; with_reducible rfl)
    try simp only [Act.put, List.setIfInBounds_toArray, List.set_cons_zero, List.set_cons_succ]
    refine wpAnyH_pass (i := 15) (d := some 21) (by kernel_rfl) (by kernel_rfl) (by kernel_rfl) (by kernel_rfl) (fun _ _ _ _ h => h) (by kernel_rfl) (HHS.out _ Fa) ?_
    try simp only [Act.put, List.setIfInBounds_toArray, List.set_cons_zero, List.set_cons_succ]
    refine wpAnyH_pass (i := 16) (d := some 22) (by kernel_rfl) (by kernel_rfl) (by kernel_rfl) (by kernel_rfl) (fun _ _ _ _ h => h) (by kernel_rfl) (HHS.out _ Fa) ?_
    try simp only [Act.put, List.setIfInBounds_toArray, List.set_cons_zero, List.set_cons_succ]
    refine wpAnyH_pass (i := 17) (d := some 23) (by kernel_rfl) (by kernel_rfl) (by kernel_rfl) (by kernel_rfl) (fun _ _ _ _ h => h) (by kernel_rfl) (HHS.out _ Fa) ?_
    try simp only [Act.put, List.setIfInBounds_toArray, List.set_cons_zero, List.set_cons_succ]
    refine wpAnyH_pass (i := 18) (d := some 24) (by kernel_rfl) (by kernel_rfl) (by kernel_rfl) (by kernel_rfl) (fun _ _ _ _ h => h) (by kernel_rfl) (HHS.out _ Fa) ?_
    try simp only [Act.put, List.setIfInBounds_toArray, List.set_cons_zero, List.set_cons_succ]
    refine wpAnyH_pass (i := 19) (d := some 25) (by kernel_rfl) (by kernel_rfl) (by kernel_rfl) (by kernel_rfl) (fun _ _ _ _ h => h) (by kernel_rfl) (HHS.out _ Fa) ?_
    try simp only [Act.put, List.setIfInBounds_toArray, List.set_cons_zero, List.set_cons_succ]
    refine wpAnyH_pass (i := 20) (d := some 26) (by kernel_rfl) (by kernel_rfl) (by kernel_rfl) (by kernel_rfl) (fun _ _ _ _ h => h) (by kernel_rfl) (HHS.out _ Fa) ?_
    try simp only [Act.put, List.setIfInBounds_toArray, List.set_cons_zero, List.set_cons_succ]
    refine wpAnyH_pass (i := 21) (d := some 27) (by kernel_rfl) (by kernel_rfl) (by kernel_rfl) (by kernel_rfl) (fun _ _ _ _ h => h) (by kernel_rfl) (HHS.out _ Fa) ?_
    try simp only [Act.put, List.setIfInBounds_toArray, List.set_cons_zero, List.set_cons_succ]
    refine wpAnyH_ready (rs := [22]) (by kernel_rfl) (by simp) ?_
    refine AllReadyH.cons rfl (fun K hK => ?_) AllReadyH.nil
    go_simp
    refine hK.out _ _ (HHS.out _ Fa) (fun hHx => ?_)
    clear hHx hK K
    try simp only [Act.put, List.setIfInBounds_toArray, List.set_cons_zero, List.set_cons_succ]
    refine wpAnyH_done (by kernel_rfl) ?_ _
    have HE := hid Fa
    clear ba Fa F0
    go_wp2
    go_ret2
    rw [HR.out]
    exact ResP.none _ _ (HB2.out.trans (HE.out.mono hw2))
  · rw [h0] at GM
    cases h1 : rowsB l
    · rw [h1] at GR
      have HR := hid (clashesR_no (m := m) (l := l) (by unfold clashB; rw [h0, h1]; rfl))
      obtain ⟨nm, st, ch⟩ := m
      dsimp only at *
      clear rd rh ok hs h0 h1 HOK hld GI
      go_enter Try.func25, Try.ntmps25
      go_wp2_with fail
      obtain ⟨B2, hsz, HC⟩ := box_mk1 28 w nm st (.slice A n c)
      have R2 := hid (RS.out.below B2)
      have RH2 := hid (RH.out.below B2)
      have HB2 := hid B2
      have hw2 := B2.size
      generalize (w.alloc (.cells #[.string (bs nm), .int .i64 st, .slice A n c] 28)) = W2 at *
      clear B2 hsz
      have HHS := hid (fun W' (h : Below W2.heap.size W2 W') => (show W'.cell? ⟨w.heap.size, 0, none⟩ = some (.string (bs nm)) ∧ W'.cell? ⟨w.heap.size, 1, none⟩ = some (.int .i64 st) ∧ W'.cell? ⟨w.heap.size, 2, none⟩ = some (.slice A n c) from by
        obtain ⟨a0, a1, a2⟩ := HC.out _ h
        exact ⟨a0, a1, a2⟩))
      clear HC
      have F0 : Below W2.heap.size W2 W2.drew := (Below.refl _ _).drew
      refine wp_region_held_drew (S := fun w' => w'.cell? ⟨w.heap.size, 0, none⟩ = some (.string (bs nm)) ∧ w'.cell? ⟨w.heap.size, 1, none⟩ = some (.int .i64 st) ∧ w'.cell? ⟨w.heap.size, 2, none⟩ = some (.slice A n c)) (by kernel_rfl) (HHS.out _ F0) (fun hHeld => ?_)
      refine wpAnyH_take (i := 0) (v := ?_) rfl (by kernel_rfl) (by kernel_rfl) (by kernel_rfl) (fun _ _ _ h => h) (Or.inl ⟨by rfl, ?_⟩) (by assumption) ?_
      rotate_left
      · (intro w hSw; (try dsimp only at hSw); go_simp; with_reducible rfl)
      try simp only [Act.put, List.setIfInBounds_toArray, List.set_cons_zero, List.set_cons_succ]
      refine wpAnyH_ready (rs := [1]) (by kernel_rfl) (by simp) ?_
      refine AllReadyH.cons rfl (fun K hK => ?_) AllReadyH.nil
      go_simp
      go_at_call 45
      refine ((GM _ (R2.out.below F0)).out).mono ?_
      rintro e wa ⟨rfl, ba⟩
      have Fa := F0.trans (ba.mono (Nat.le_refl _))
      go_wp2_with fail
      refine hK.out _ _ (HHS.out _ Fa) (fun hHx => ?_)
      clear hHx hK K hHeld
      try simp only [Act.put, List.setIfInBounds_toArray, List.set_cons_zero, List.set_cons_succ]
      refine wpAnyH_take (i := 2) (v := ?_) rfl (by kernel_rfl) (by kernel_rfl) (by kernel_rfl) (fun _ _ _ h => h) (Or.inl ⟨by rfl, ?_⟩) (HHS.out _ Fa) ?_
      rotate_left
      · (intro w hSw; (try dsimp only at hSw); go_simp; with_reducible rfl)
      try simp only [Act.put, List.setIfInBounds_toArray, List.set_cons_zero, List.set_cons_succ]
      refine wpAnyH_take (i := 3) (v := ?_) rfl (by kernel_rfl) (by kernel_rfl) (by kernel_rfl) (fun _ _ _ h => h) (Or.inl ⟨by rfl, ?_⟩) (HHS.out _ Fa) ?_
      rotate_left
      · (intro w hSw; (try dsimp only at hSw); go_simp; with_reducible rfl)
      try simp only [Act.put, List.setIfInBounds_toArray, List.set_cons_zero, List.set_cons_succ]
      refine wpAnyH_take (i := 4) (v := ?_) rfl (by kernel_rfl) (by kernel_rfl) (by kernel_rfl) (fun _ _ _ h => h) (Or.inl ⟨by rfl, ?_⟩) (HHS.out _ Fa) ?_
      rotate_left
      · (intro w hSw; (try dsimp only at hSw); go_simp; with_reducible rfl)
      try simp only [Act.put, List.setIfInBounds_toArray, List.set_cons_zero, List.set_cons_succ]
      refine wpAnyH_ready (rs := [5]) (by kernel_rfl) (by simp) ?_
      refine AllReadyH.cons rfl (fun K hK => ?_) AllReadyH.nil
      go_simp
      go_at_call 67
      refine ((GR _ (RH2.out.below Fa)).out).mono ?_
      rintro e wb ⟨rfl, qb, rfl⟩
      have Fb := below_drewN Fa qb
      go_wp2_with fail
      refine hK.out _ _ (HHS.out _ Fb) (fun hHx => ?_)
      clear hHx hK K
      try simp only [Act.put, List.setIfInBounds_toArray, List.set_cons_zero, List.set_cons_succ]
      refine wpAnyH_take (i := 6) (v := ?_) rfl (by kernel_rfl) (by kernel_rfl) (by kernel_rfl) (fun _ _ _ h => h) (Or.inl ⟨by rfl, ?_⟩) (HHS.out _ Fb) ?_
      rotate_left
      · (intro w hSw; (try dsimp only at hSw); go_simp; with_reducible rfl)
      try simp only [Act.put, List.setIfInBounds_toArray, List.set_cons_zero, List.set_cons_succ]
      refine wpAnyH_take (i := 7) (v := ?_) rfl (by kernel_rfl) (by kernel_rfl) (by kernel_rfl) (fun _ _ _ h => h) (Or.inl ⟨by rfl, ?_⟩) (HHS.out _ Fb) ?_
      rotate_left
      · (intro w hSw; (try dsimp only at hSw); go_simp; with_reducible rfl)
      try simp only [Act.put, List.setIfInBounds_toArray, List.set_cons_zero, List.set_cons_succ]
      refine wpAnyH_take (i := 8) (v := ?_) rfl (by kernel_rfl) (by kernel_rfl) (by kernel_rfl) (fun _ _ _ h => h) (Or.inl ⟨by rfl, ?_⟩) (HHS.out _ Fb) ?_
      rotate_left
      · (intro w hSw; (try dsimp only at hSw); go_simp; with_reducible rfl)
      try simp only [Act.put, List.setIfInBounds_toArray, List.set_cons_zero, List.set_cons_succ]
      refine wpAnyH_pass (i := 9) (d := some 15) (by kernel_rfl) (by kernel_rfl) (by kernel_rfl) (by kernel_rfl) (fun _ _ _ _ h => h) (by kernel_rfl) (HHS.out _ Fb) ?_
      try simp only [Act.put, List.setIfInBounds_toArray, List.set_cons_zero, List.set_cons_succ]
      refine wpAnyH_pass (i := 10) (d := some 16) (by kernel_rfl) (by kernel_rfl) (by kernel_rfl) (by kernel_rfl) (fun _ _ _ _ h => h) (by kernel_rfl) (HHS.out _ Fb) ?_
      try simp only [Act.put, List.setIfInBounds_toArray, List.set_cons_zero, List.set_cons_succ]
      refine wpAnyH_pass (i := 11) (d := some 17) (by kernel_rfl) (by kernel_rfl) (by kernel_rfl) (by kernel_rfl) (fun _ _ _ _ h => h) (by kernel_rfl) (HHS.out _ Fb) ?_
      try simp only [Act.put, List.setIfInBounds_toArray, List.set_cons_zero, List.set_cons_succ]
      refine wpAnyH_pass (i := 12) (d := some 18) (by kernel_rfl) (by kernel_rfl) (by kernel_rfl) (by kernel_rfl) (fun _ _ _ _ h => h) (by kernel_rfl) (HHS.out _ Fb) ?_
      try simp only [Act.put, List.setIfInBounds_toArray, List.set_cons_zero, List.set_cons_succ]
      refine wpAnyH_take (i := 13) (v := ?_) rfl (by kernel_rfl) (by kernel_rfl) (by kernel_rfl) (fun _ _ _ h => h) (Or.inl ⟨by rfl, ?_⟩) (HHS.out _ Fb) ?_
      rotate_left
      · (intro w hSw; (try dsimp only at hSw); go_simp; with_reducible rfl)
      try simp only [Act.put, List.setIfInBounds_toArray, List.set_cons_zero, List.set_cons_succ]
      refine wpAnyH_take (i := 14) (v := ?_) rfl (by kernel_rfl) (by kernel_rfl) (by kernel_rfl) (fun _ _ _ h => h) (Or.inl ⟨by rfl, ?_⟩) (HHS.out _ Fb) ?_
      rotate_left
      · (intro w hSw; (try dsimp only at hSw); go_simp; with_reducible rfl)
      try simp only [Act.put, List.setIfInBounds_toArray, List.set_cons_zero, List.set_cons_succ]
      refine wpAnyH_pass (i := 15) (d := some 21) (by kernel_rfl) (by kernel_rfl) (by kernel_rfl) (by kernel_rfl) (fun _ _ _ _ h => h) (by kernel_rfl) (HHS.out _ Fb) ?_
      try simp only [Act.put, List.setIfInBounds_toArray, List.set_cons_zero, List.set_cons_succ]
      refine wpAnyH_pass (i := 16) (d := some 22) (by kernel_rfl) (by kernel_rfl) (by kernel_rfl) (by kernel_rfl) (fun _ _ _ _ h => h) (by kernel_rfl) (HHS.out _ Fb) ?_
      try simp only [Act.put, List.setIfInBounds_toArray, List.set_cons_zero, List.set_cons_succ]
      refine wpAnyH_pass (i := 17) (d := some 23) (by kernel_rfl) (by kernel_rfl) (by kernel_rfl) (by kernel_rfl) (fun _ _ _ _ h => h) (by kernel_rfl) (HHS.out _ Fb) ?_
      try simp only [Act.put, List.setIfInBounds_toArray, List.set_cons_zero, List.set_cons_succ]
      refine wpAnyH_pass (i := 18) (d := some 24) (by kernel_rfl) (by kernel_rfl) (by kernel_rfl) (by kernel_rfl) (fun _ _ _ _ h => h) (by kernel_rfl) (HHS.out _ Fb) ?_
      try simp only [Act.put, List.setIfInBounds_toArray, List.set_cons_zero, List.set_cons_succ]
      refine wpAnyH_pass (i := 19) (d := some 25) (by kernel_rfl) (by kernel_rfl) (by kernel_rfl) (by kernel_rfl) (fun _ _ _ _ h => h) (by kernel_rfl) (HHS.out _ Fb) ?_
      try simp only [Act.put, List.setIfInBounds_toArray, List.set_cons_zero, List.set_cons_succ]
      refine wpAnyH_pass (i := 20) (d := some 26) (by kernel_rfl) (by kernel_rfl) (by kernel_rfl) (by kernel_rfl) (fun _ _ _ _ h => h) (by kernel_rfl) (HHS.out _ Fb) ?_
      try simp only [Act.put, List.setIfInBounds_toArray, List.set_cons_zero, List.set_cons_succ]
      refine wpAnyH_pass (i := 21) (d := some 27) (by kernel_rfl) (by kernel_rfl) (by kernel_rfl) (by kernel_rfl) (fun _ _ _ _ h => h) (by kernel_rfl) (HHS.out _ Fb) ?_
      try simp only [Act.put, List.setIfInBounds_toArray, List.set_cons_zero, List.set_cons_succ]
      refine wpAnyH_ready (rs := [22]) (by kernel_rfl) (by simp) ?_
      refine AllReadyH.cons rfl (fun K hK => ?_) AllReadyH.nil
      go_simp
      refine hK.out _ _ (HHS.out _ Fb) (fun hHx => ?_)
      clear hHx hK K
      try simp only [Act.put, List.setIfInBounds_toArray, List.set_cons_zero, List.set_cons_succ]
      refine wpAnyH_done (by kernel_rfl) ?_ _
      have HE := hid Fb
      clear ba Fa Fb F0
      go_wp2
      go_ret2
      rw [HR.out]
      exact ResP.none _ _ (HB2.out.trans (HE.out.mono hw2))
    · rw [h1] at GR
      cases h2 : (decide ((1 : Int) ≤ (d : Int)) && decide ((d : Int) ≤ 100))
      · rw [h2] at GI
        have HR := hid (clashesR_no (m := m) (l := l) (by
          unfold clashB; rw [h0, h1, hld]
          rw [Bool.and_eq_false_iff, decide_eq_false_iff_not, decide_eq_false_iff_not] at h2
          have h3 : (decide (1 ≤ d) && decide (d ≤ 100)) = false := by
            rw [Bool.and_eq_false_iff, decide_eq_false_iff_not, decide_eq_false_iff_not]; omega
          rw [h3]; rfl))
        obtain ⟨nm, st, ch⟩ := m
        dsimp only at *
        clear rd rh ok hs h0 h1 h2 HOK hld
        go_enter Try.func25, Try.ntmps25
        go_wp2_with fail
        obtain ⟨B2, hsz, HC⟩ := box_mk1 28 w nm st (.slice A n c)
        have R2 := hid (RS.out.below B2)
        have RH2 := hid (RH.out.below B2)
        have HB2 := hid B2
        have hw2 := B2.size
        generalize (w.alloc (.cells #[.string (bs nm), .int .i64 st, .slice A n c] 28)) = W2 at *
        clear B2 hsz
        have HHS := hid (fun W' (h : Below W2.heap.size W2 W') => (show W'.cell? ⟨w.heap.size, 0, none⟩ = some (.string (bs nm)) ∧ W'.cell? ⟨w.heap.size, 1, none⟩ = some (.int .i64 st) ∧ W'.cell? ⟨w.heap.size, 2, none⟩ = some (.slice A n c) from by
          obtain ⟨a0, a1, a2⟩ := HC.out _ h
          exact ⟨a0, a1, a2⟩))
        clear HC
        have F0 : Below W2.heap.size W2 W2.drew := (Below.refl _ _).drew
        refine wp_region_held_drew (S := fun w' => w'.cell? ⟨w.heap.size, 0, none⟩ = some (.string (bs nm)) ∧ w'.cell? ⟨w.heap.size, 1, none⟩ = some (.int .i64 st) ∧ w'.cell? ⟨w.heap.size, 2, none⟩ = some (.slice A n c)) (by kernel_rfl) (HHS.out _ F0) (fun hHeld => ?_)
        refine wpAnyH_take (i := 0) (v := ?_) rfl (by kernel_rfl) (by kernel_rfl) (by kernel_rfl) (fun _ _ _ h => h) (Or.inl ⟨by rfl, ?_⟩) (by assumption) ?_
        rotate_left
        · (intro w hSw; (try dsimp only at hSw); go_simp; with_reducible rfl)
        try simp only [Act.put, List.setIfInBounds_toArray, List.set_cons_zero, List.set_cons_succ]
        refine wpAnyH_ready (rs := [1]) (by kernel_rfl) (by simp) ?_
        refine AllReadyH.cons rfl (fun K hK => ?_) AllReadyH.nil
        go_simp
        go_at_call 45
        refine ((GM _ (R2.out.below F0)).out).mono ?_
        rintro e wa ⟨rfl, ba⟩
        have Fa := F0.trans (ba.mono (Nat.le_refl _))
        go_wp2_with fail
        refine hK.out _ _ (HHS.out _ Fa) (fun hHx => ?_)
        clear hHx hK K hHeld
        try simp only [Act.put, List.setIfInBounds_toArray, List.set_cons_zero, List.set_cons_succ]
        refine wpAnyH_take (i := 2) (v := ?_) rfl (by kernel_rfl) (by kernel_rfl) (by kernel_rfl) (fun _ _ _ h => h) (Or.inl ⟨by rfl, ?_⟩) (HHS.out _ Fa) ?_
        rotate_left
        · (intro w hSw; (try dsimp only at hSw); go_simp; with_reducible rfl)
        try simp only [Act.put, List.setIfInBounds_toArray, List.set_cons_zero, List.set_cons_succ]
        refine wpAnyH_take (i := 3) (v := ?_) rfl (by kernel_rfl) (by kernel_rfl) (by kernel_rfl) (fun _ _ _ h => h) (Or.inl ⟨by rfl, ?_⟩) (HHS.out _ Fa) ?_
        rotate_left
        · (intro w hSw; (try dsimp only at hSw); go_simp; with_reducible rfl)
        try simp only [Act.put, List.setIfInBounds_toArray, List.set_cons_zero, List.set_cons_succ]
        refine wpAnyH_take (i := 4) (v := ?_) rfl (by kernel_rfl) (by kernel_rfl) (by kernel_rfl) (fun _ _ _ h => h) (Or.inl ⟨by rfl, ?_⟩) (HHS.out _ Fa) ?_
        rotate_left
        · (intro w hSw; (try dsimp only at hSw); go_simp; with_reducible rfl)
        try simp only [Act.put, List.setIfInBounds_toArray, List.set_cons_zero, List.set_cons_succ]
        refine wpAnyH_ready (rs := [5]) (by kernel_rfl) (by simp) ?_
        refine AllReadyH.cons rfl (fun K hK => ?_) AllReadyH.nil
        go_simp
        go_at_call 67
        refine ((GR _ (RH2.out.below Fa)).out).mono ?_
        rintro e wb ⟨rfl, qb, rfl⟩
        have Fb := below_drewN Fa qb
        go_wp2_with fail
        refine hK.out _ _ (HHS.out _ Fb) (fun hHx => ?_)
        clear hHx hK K
        try simp only [Act.put, List.setIfInBounds_toArray, List.set_cons_zero, List.set_cons_succ]
        refine wpAnyH_take (i := 6) (v := ?_) rfl (by kernel_rfl) (by kernel_rfl) (by kernel_rfl) (fun _ _ _ h => h) (Or.inl ⟨by rfl, ?_⟩) (HHS.out _ Fb) ?_
        rotate_left
        · (intro w hSw; (try dsimp only at hSw); go_simp; with_reducible rfl)
        try simp only [Act.put, List.setIfInBounds_toArray, List.set_cons_zero, List.set_cons_succ]
        refine wpAnyH_take (i := 7) (v := ?_) rfl (by kernel_rfl) (by kernel_rfl) (by kernel_rfl) (fun _ _ _ h => h) (Or.inl ⟨by rfl, ?_⟩) (HHS.out _ Fb) ?_
        rotate_left
        · (intro w hSw; (try dsimp only at hSw); go_simp; with_reducible rfl)
        try simp only [Act.put, List.setIfInBounds_toArray, List.set_cons_zero, List.set_cons_succ]
        refine wpAnyH_take (i := 8) (v := ?_) rfl (by kernel_rfl) (by kernel_rfl) (by kernel_rfl) (fun _ _ _ h => h) (Or.inl ⟨by rfl, ?_⟩) (HHS.out _ Fb) ?_
        rotate_left
        · (intro w hSw; (try dsimp only at hSw); go_simp; with_reducible rfl)
        try simp only [Act.put, List.setIfInBounds_toArray, List.set_cons_zero, List.set_cons_succ]
        refine wpAnyH_take (i := 9) (v := ?_) rfl (by kernel_rfl) (by kernel_rfl) (by kernel_rfl) (fun _ _ _ h => h) (Or.inl ⟨by rfl, ?_⟩) (HHS.out _ Fb) ?_
        rotate_left
        · (intro w hSw; (try dsimp only at hSw); go_simp; with_reducible rfl)
        try simp only [Act.put, List.setIfInBounds_toArray, List.set_cons_zero, List.set_cons_succ]
        refine wpAnyH_take (i := 10) (v := ?_) rfl (by kernel_rfl) (by kernel_rfl) (by kernel_rfl) (fun _ _ _ h => h) (Or.inl ⟨by rfl, ?_⟩) (HHS.out _ Fb) ?_
        rotate_left
        · (intro w hSw; (try dsimp only at hSw); go_simp; with_reducible rfl)
        try simp only [Act.put, List.setIfInBounds_toArray, List.set_cons_zero, List.set_cons_succ]
        refine wpAnyH_ready (rs := [11]) (by kernel_rfl) (by simp) ?_
        refine AllReadyH.cons rfl (fun K hK => ?_) AllReadyH.nil
        go_simp
        go_at_call 68
        refine ((GI _).out).mono ?_
        rintro e wc ⟨rfl, rfl⟩
        go_wp2_with fail
        refine hK.out _ _ (HHS.out _ Fb) (fun hHx => ?_)
        clear hHx hK K
        try simp only [Act.put, List.setIfInBounds_toArray, List.set_cons_zero, List.set_cons_succ]
        refine wpAnyH_take (i := 12) (v := ?_) rfl (by kernel_rfl) (by kernel_rfl) (by kernel_rfl) (fun _ _ _ h => h) (Or.inl ⟨by rfl, ?_⟩) (HHS.out _ Fb) ?_
        rotate_left
        · (intro w hSw; (try dsimp only at hSw); go_simp; with_reducible rfl)
        try simp only [Act.put, List.setIfInBounds_toArray, List.set_cons_zero, List.set_cons_succ]
        refine wpAnyH_take (i := 13) (v := ?_) rfl (by kernel_rfl) (by kernel_rfl) (by kernel_rfl) (fun _ _ _ h => h) (Or.inl ⟨by rfl, ?_⟩) (HHS.out _ Fb) ?_
        rotate_left
        · (intro w hSw; (try dsimp only at hSw); go_simp; with_reducible rfl)
        try simp only [Act.put, List.setIfInBounds_toArray, List.set_cons_zero, List.set_cons_succ]
        refine wpAnyH_take (i := 14) (v := ?_) rfl (by kernel_rfl) (by kernel_rfl) (by kernel_rfl) (fun _ _ _ h => h) (Or.inl ⟨by rfl, ?_⟩) (HHS.out _ Fb) ?_
        rotate_left
        · (intro w hSw; (try dsimp only at hSw); go_simp; with_reducible rfl)
        try simp only [Act.put, List.setIfInBounds_toArray, List.set_cons_zero, List.set_cons_succ]
        refine wpAnyH_pass (i := 15) (d := some 21) (by kernel_rfl) (by kernel_rfl) (by kernel_rfl) (by kernel_rfl) (fun _ _ _ _ h => h) (by kernel_rfl) (HHS.out _ Fb) ?_
        try simp only [Act.put, List.setIfInBounds_toArray, List.set_cons_zero, List.set_cons_succ]
        refine wpAnyH_pass (i := 16) (d := some 22) (by kernel_rfl) (by kernel_rfl) (by kernel_rfl) (by kernel_rfl) (fun _ _ _ _ h => h) (by kernel_rfl) (HHS.out _ Fb) ?_
        try simp only [Act.put, List.setIfInBounds_toArray, List.set_cons_zero, List.set_cons_succ]
        refine wpAnyH_pass (i := 17) (d := some 23) (by kernel_rfl) (by kernel_rfl) (by kernel_rfl) (by kernel_rfl) (fun _ _ _ _ h => h) (by kernel_rfl) (HHS.out _ Fb) ?_
        try simp only [Act.put, List.setIfInBounds_toArray, List.set_cons_zero, List.set_cons_succ]
        refine wpAnyH_pass (i := 18) (d := some 24) (by kernel_rfl) (by kernel_rfl) (by kernel_rfl) (by kernel_rfl) (fun _ _ _ _ h => h) (by kernel_rfl) (HHS.out _ Fb) ?_
        try simp only [Act.put, List.setIfInBounds_toArray, List.set_cons_zero, List.set_cons_succ]
        refine wpAnyH_pass (i := 19) (d := some 25) (by kernel_rfl) (by kernel_rfl) (by kernel_rfl) (by kernel_rfl) (fun _ _ _ _ h => h) (by kernel_rfl) (HHS.out _ Fb) ?_
        try simp only [Act.put, List.setIfInBounds_toArray, List.set_cons_zero, List.set_cons_succ]
        refine wpAnyH_pass (i := 20) (d := some 26) (by kernel_rfl) (by kernel_rfl) (by kernel_rfl) (by kernel_rfl) (fun _ _ _ _ h => h) (by kernel_rfl) (HHS.out _ Fb) ?_
        try simp only [Act.put, List.setIfInBounds_toArray, List.set_cons_zero, List.set_cons_succ]
        refine wpAnyH_pass (i := 21) (d := some 27) (by kernel_rfl) (by kernel_rfl) (by kernel_rfl) (by kernel_rfl) (fun _ _ _ _ h => h) (by kernel_rfl) (HHS.out _ Fb) ?_
        try simp only [Act.put, List.setIfInBounds_toArray, List.set_cons_zero, List.set_cons_succ]
        refine wpAnyH_ready (rs := [22]) (by kernel_rfl) (by simp) ?_
        refine AllReadyH.cons rfl (fun K hK => ?_) AllReadyH.nil
        go_simp
        refine hK.out _ _ (HHS.out _ Fb) (fun hHx => ?_)
        clear hHx hK K
        try simp only [Act.put, List.setIfInBounds_toArray, List.set_cons_zero, List.set_cons_succ]
        refine wpAnyH_done (by kernel_rfl) ?_ _
        have HE := hid Fb
        clear ba Fa Fb F0
        go_wp2
        go_ret2
        rw [HR.out]
        exact ResP.none _ _ (HB2.out.trans (HE.out.mono hw2))
      · rw [h2] at GI
        rw [Bool.and_eq_true, decide_eq_true_eq, decide_eq_true_eq] at h2
        obtain ⟨hl1, hl2⟩ := h2
        have hpos : 0 < d := by omega
        obtain ⟨b, o, rfl, hj0, hc0⟩ := rh.str hpos
        rw [headD_at' l hj0] at hc0
        have hc2 : w.cell? ⟨b, o, none⟩ = some (.string (bs (l.headD []))) := hc0
        have HC2 := hid hc2
        obtain ⟨X, hX⟩ : ∃ X, X = l.headD [] := ⟨_, rfl⟩
        rw [← hX] at HC2
        have hCB : clashB m l = decide ((X.length : Int) = m.st) := by
          unfold clashB; rw [h0, h1, hld, decide_eq_true (show 1 ≤ d by omega), decide_eq_true (show d ≤ 100 by omega), ← hX]; simp
        have i0 : (0 : Int) < (d : Int) := by omega
        obtain ⟨N, hN, lo, hi, l1, l40, hsm⟩ := meth_parts h0
        have hcn : m.ch.length = n := by have h1 := rd.1; rw [strV_len] at h1; exact h1
        clear hc0 hc2
        by_cases hst : (X.length : Int) = m.st
        · have HR0 := show clashesR m l = (clashTo (quotL (leadL (roundsL m.st.toNat) m.ch) (leadL (roundsL m.st.toNat) m.ch)) l l.length, true) by unfold clashesR; rw [if_pos (by rw [hCB]; exact decide_eq_true hst)]
          have hrl : ∀ x ∈ l, IsRow x ∧ x.length = N := fun x hx => by
            obtain ⟨i, hi', rfl⟩ := List.mem_iff_getElem.1 hx
            have := rowsB_row h1 hi'
            rw [← hX] at this
            exact ⟨this.1, by omega⟩
          obtain ⟨nm, st, ch⟩ := m
          dsimp only at *
          subst hN
          have HR := hid HR0
          have GC := fun (w0 : World) (rd : Rd w0 A n (strV ch)) (rh : Rd w0 (some ⟨b, o, none⟩) d (strV l)) => hid (l11ClashesP_any N nm ch l A (some ⟨b, o, none⟩) n c d e0 w0 lo hi rd rh (by omega) (by omega) hsm hrl)
          rw [hld] at HR
          simp only [Int.toNat_natCast] at HR
          have ist : ((X.length : Int) == (N : Int)) = true := by simp; omega
          have hXN : X.length = N := by omega
          clear rd rh ok hs h0 HOK hCB hst hld HR0 hrl hsm h1 hj0 hX
          subst hXN
          go_enter Try.func25, Try.ntmps25
          go_wp2_with fail
          obtain ⟨B2, hsz, HC⟩ := box_mk1 28 w nm (X.length : Int) (.slice A n c)
          have R2 := hid (RS.out.below B2)
          have RH2 := hid (RH.out.below B2)
          have HB2 := hid B2
          have hw2 := B2.size
          generalize (w.alloc (.cells #[.string (bs nm), .int .i64 (X.length : Int), .slice A n c] 28)) = W2 at *
          clear B2 hsz
          have HHS := hid (fun W' (h : Below W2.heap.size W2 W') => (show W'.cell? ⟨w.heap.size, 0, none⟩ = some (.string (bs nm)) ∧ W'.cell? ⟨w.heap.size, 1, none⟩ = some (.int .i64 (X.length : Int)) ∧ W'.cell? ⟨w.heap.size, 2, none⟩ = some (.slice A n c) ∧ W'.cell? ⟨b, o, none⟩ = some (.string (bs X)) from by
            obtain ⟨a0, a1, a2⟩ := HC.out _ h
            exact ⟨a0, a1, a2, (h.cell (Nat.lt_of_lt_of_le (World.block_lt_of_cell? w _ HC2.out) hw2)).trans ((HB2.out.cell (World.block_lt_of_cell? w _ HC2.out)).trans HC2.out)⟩))
          clear HC
          have F0 : Below W2.heap.size W2 W2.drew := (Below.refl _ _).drew
          obtain ⟨n0, n1, n2, n3⟩ := HHS.out _ (Below.refl _ _)
          go_region_held3 (fun w' => w'.cell? ⟨w.heap.size, 0, none⟩ = some (.string (bs nm)) ∧ w'.cell? ⟨w.heap.size, 1, none⟩ = some (.int .i64 (X.length : Int)) ∧ w'.cell? ⟨w.heap.size, 2, none⟩ = some (.slice A n c) ∧ w'.cell? ⟨b, o, none⟩ = some (.string (bs X)))
            (first | exact HHS.out _ (Below.refl _ _) | exact HHS.out _ F0 | exact HHS.out _ Fa | exact HHS.out _ Fb)
            (first | (go_at_call 45; refine (GM _ (R2.out.below F0)).out.mono ?_; rintro e wa ⟨rfl, ba⟩; have Fa := F0.trans (ba.mono (Nat.le_refl _))) | (go_at_call 67; refine (GR _ (RH2.out.below Fa)).out.mono ?_; rintro e wb ⟨rfl, qb, rfl⟩; have Fb := below_drewN Fa qb) | (go_at_call 68; refine (GI _).out.mono ?_; rintro e wc ⟨rfl, rfl⟩))
          have HE := hid Fb
          clear n0 n1 n2 n3 ba Fa Fb F0
          obtain ⟨n0, n1, n2, n3⟩ := HHS.out _ HE.out
          go_wp2_with fail
          refine (GC _ (R2.out.below HE.out) (RH2.out.below HE.out)).out.mono ?_
          rintro e w2 ⟨v2, rfl, o2, b2⟩
          have E2 := hid (HE.out.trans (b2.mono HE.out.size))
          have O2 := hid o2
          have hs1 := HE.out.size
          clear b2 o2 n0 n1 n2 n3
          go_wp2
          go_ret2
          rw [HR.out]
          exact ⟨_, rfl, O2.out.mono (Nat.le_trans hw2 hs1), HB2.out.trans (E2.out.mono hw2)⟩
        · have HR := hid (clashesR_no (m := m) (l := l) (by rw [hCB]; exact decide_eq_false hst))
          obtain ⟨nm, st, ch⟩ := m
          dsimp only at *
          have ist : ((X.length : Int) == st) = false := by simp; omega
          clear rd rh ok hs h0 HOK hCB hld hsm h1 hj0 hX hN hst
          go_enter Try.func25, Try.ntmps25
          go_wp2_with fail
          obtain ⟨B2, hsz, HC⟩ := box_mk1 28 w nm st (.slice A n c)
          have R2 := hid (RS.out.below B2)
          have RH2 := hid (RH.out.below B2)
          have HB2 := hid B2
          have hw2 := B2.size
          generalize (w.alloc (.cells #[.string (bs nm), .int .i64 st, .slice A n c] 28)) = W2 at *
          clear B2 hsz
          have HHS := hid (fun W' (h : Below W2.heap.size W2 W') => (show W'.cell? ⟨w.heap.size, 0, none⟩ = some (.string (bs nm)) ∧ W'.cell? ⟨w.heap.size, 1, none⟩ = some (.int .i64 st) ∧ W'.cell? ⟨w.heap.size, 2, none⟩ = some (.slice A n c) ∧ W'.cell? ⟨b, o, none⟩ = some (.string (bs X)) from by
            obtain ⟨a0, a1, a2⟩ := HC.out _ h
            exact ⟨a0, a1, a2, (h.cell (Nat.lt_of_lt_of_le (World.block_lt_of_cell? w _ HC2.out) hw2)).trans ((HB2.out.cell (World.block_lt_of_cell? w _ HC2.out)).trans HC2.out)⟩))
          clear HC
          have F0 : Below W2.heap.size W2 W2.drew := (Below.refl _ _).drew
          obtain ⟨n0, n1, n2, n3⟩ := HHS.out _ (Below.refl _ _)
          go_region_held3 (fun w' => w'.cell? ⟨w.heap.size, 0, none⟩ = some (.string (bs nm)) ∧ w'.cell? ⟨w.heap.size, 1, none⟩ = some (.int .i64 st) ∧ w'.cell? ⟨w.heap.size, 2, none⟩ = some (.slice A n c) ∧ w'.cell? ⟨b, o, none⟩ = some (.string (bs X)))
            (first | exact HHS.out _ (Below.refl _ _) | exact HHS.out _ F0 | exact HHS.out _ Fa | exact HHS.out _ Fb)
            (first | (go_at_call 45; refine (GM _ (R2.out.below F0)).out.mono ?_; rintro e wa ⟨rfl, ba⟩; have Fa := F0.trans (ba.mono (Nat.le_refl _))) | (go_at_call 67; refine (GR _ (RH2.out.below Fa)).out.mono ?_; rintro e wb ⟨rfl, qb, rfl⟩; have Fb := below_drewN Fa qb) | (go_at_call 68; refine (GI _).out.mono ?_; rintro e wc ⟨rfl, rfl⟩))
          have HE := hid Fb
          clear n0 n1 n2 n3 ba Fa Fb F0
          obtain ⟨n0, n1, n2, n3⟩ := HHS.out _ HE.out
          go_wp2
          go_ret2
          rw [HR.out]
          exact ResP.none _ _ (HB2.out.trans (HE.out.mono hw2))
end Go.Proofs.Ytiajeheonoebnaa
