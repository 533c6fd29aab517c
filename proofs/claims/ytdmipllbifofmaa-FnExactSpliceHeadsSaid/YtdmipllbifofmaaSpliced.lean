/- Contracts of GoodSpliced, in the reference and in the program. No conditions beyond those stated. -/
import Derived.Test.YtdmipllbifofmaaMs2
import Derived.Test.YtdmipllbifofmaaCalls
import Derived.Test.YtdmipllbifofmaaSkip
import Derived.Test.YtdmipllbifofmaaBox1
set_option linter.unusedVariables false
set_option linter.unusedSimpArgs false
set_option maxRecDepth 100000
namespace Go.Proofs.Ytdmipllbifofmaa
open Go.RowKit

/-- A method fits what the contracts ask. -/
def MOk (m : Meth) : Prop := (Lit.int .i64 m.st).wf = true ∧ m.nm.length ≤ 1048576 ∧ m.ch.length ≤ 1048576 ∧ ∀ s ∈ m.ch, s.length ≤ 1048576
/-- Method m is good and has stage s. -/
def okM (s : Int) (m : Meth) : Bool := methB m && decide (m.st = s)
def headSt (ms : List Meth) : Int := (ms.headD default).st
def methsB (ms : List Meth) : Bool := ms.all (okM (headSt ms))
def countB (ms : List Meth) : Bool := decide (1 ≤ (ms.length : Int)) && decide ((ms.length : Int) ≤ 4)
theorem methsB_bad (ms : List Meth) (k : Nat) (h : k < ms.length) (hb : okM (headSt ms) ms[k] = false) : methsB ms = false := by
  apply Bool.eq_false_iff.2
  intro ha
  have := List.all_eq_true.1 ha _ (List.getElem_mem h)
  rw [hb] at this
  cases this
theorem methsB_all (ms : List Meth) (h : ∀ k (hk : k < ms.length), okM (headSt ms) ms[k] = true) : methsB ms = true := by
  apply List.all_eq_true.2
  intro m hm
  obtain ⟨k, hk, rfl⟩ := List.mem_iff_getElem.1 hm
  exact h k hk
theorem headSt_at (ms : List Meth) (h : 0 < ms.length) : headSt ms = (ms[0]'h).st := by
  cases ms with
  | nil => simp at h
  | cons a l => rfl
/-- What GoodSpliced answers. -/
def splicedB (ms : List Meth) (k : List UInt8 × List UInt8) : Bool := (methsB ms && countB ms) && callsB (ms.headD default) k
theorem head_at (ms : List Meth) (h : 0 < ms.length) : ms.headD default = ms[0]'h := by
  cases ms with
  | nil => simp at h
  | cons a l => rfl
set_option maxHeartbeats 2000000 in
theorem l14Methods_any (g : Nat) (ms : List Meth) (vs : List Value) (w : World) (h : MethsTo w g ms ms.length vs) (ok : ∀ m ∈ ms, MOk m) (hn : ms.length ≤ 1048576) :
    Calls Try.prog 78 #[.slice (some ⟨g, 0, none⟩) ms.length ms.length] w fun e w' => e = .returned (.bool (methsB ms && countB ms)) ∧ Below w.heap.size w w' := by
  have H := hid h
  have OK := hid ok
  obtain ⟨n, hn'⟩ : ∃ n, n = ms.length := ⟨_, rfl⟩
  have HL := hid hn'
  have HCB := hid (show countB ms = (decide (1 ≤ (n : Int)) && decide ((n : Int) ≤ 4)) by rw [hn']; rfl)
  rw [← hn'] at hn ⊢
  have HIN := hid (fun w0 => l1In_any (n : Int) 1 4 w0)
  clear h ok hn'
  go_enter Try.func78, Try.ntmps78
  go_wp2
  go_loopg [7] n (fun gk u wr => ∃ k : Nat, k ≤ n ∧ gk = n - k ∧ u = .int .i64 k ∧ Hid (∀ j (hj : j < ms.length), j < k → okM (headSt ms) ms[j] = true) ∧ Below w.heap.size w wr)
  case atStart => exact ⟨0, by omega, by omega, rfl, hid (fun j _ h => by omega), Below.refl _ _⟩
  case round =>
    obtain ⟨k, hk, rfl, rfl, hgd, hb⟩ := hrel
    by_cases hlt : k < n
    · have hkm : k < ms.length := by have := HL.out; omega
      have hbw := hid (hb)
      obtain ⟨M, n1, cc1, A1, hM, x0, x1, x2, _, r1⟩ := methsTo_at (H.out.below hbw.out) hkm
      obtain ⟨_, y1, _, _⟩ := (H.out.below hbw.out).2.1 0 (by have := H.out.1; omega) (by omega)
      rw [← headSt_at ms (by omega)] at y1
      have y1 : wr.cell? ⟨g, 1, none⟩ = some (.int .i64 (headSt ms)) := by simpa using y1
      obtain ⟨s0, hs0⟩ : ∃ s0, s0 = headSt ms := ⟨_, rfl⟩
      rw [← hs0] at y1 hgd
      have hbad := hid (fun h => methsB_bad ms k hkm (by rw [← hs0]; exact h))
      have HS0 := hid hs0
      have HB := hid hb
      have hbs := hb.size
      have HM := hid hM
      have R1 := hid r1
      have hj0 : (0 : Int) ≤ (k : Int) := by omega
      have hj1 : (k : Int) < (n : Int) := by omega
      have hi0 : (0 : Int) < (n : Int) := by omega
      have hi1 : 0 < n := by omega
      have hmo := OK.out _ (List.getElem_mem hkm)
      rw [hM] at hmo
      obtain ⟨w1, w2, w3, w4⟩ := hmo
      have hn1 : n1 = M.ch.length := by have := r1.1; rw [strV_len] at this; exact this.symm
      have GM := hid (fun w0 (rd : Rd w0 A1 n1 (strV M.ch)) => l4Good_any M A1 n1 cc1 w0 w1 w2 rd (by omega) w4)
      have Y1 := hid y1
      have HGL := hid (World.block_lt_of_cell? wr _ y1)
      clear r1 hb hM hs0 w1 w2 w3 w4 hn1 y1
      go_wp2_with fail
      obtain ⟨B2, hsz, HC⟩ := box_mk1 30 wr M.nm M.st (.slice A1 n1 cc1)
      generalize (wr.alloc (.cells #[.string (bs M.nm), .int .i64 M.st, .slice A1 n1 cc1] 30)) = W2 at *
      have hw2 : wr.heap.size ≤ W2.heap.size := B2.size
      have R2 := hid (R1.out.below B2)
      have HB2 := hid (HB.out.trans (B2.mono hbs))
      have HS5 := hid (show ∀ w', Below W2.heap.size W2 w' → w'.cell? ⟨wr.heap.size, 0, none⟩ = some (.string (bs M.nm)) ∧ w'.cell? ⟨wr.heap.size, 1, none⟩ = some (.int .i64 M.st) ∧ w'.cell? ⟨wr.heap.size, 2, none⟩ = some (.slice A1 n1 cc1) ∧ w'.cell? ⟨g, 1, none⟩ = some (.int .i64 s0) from fun w' h => by
        obtain ⟨a0, a1, a2⟩ := HC.out _ h
        exact ⟨a0, a1, a2, ((h.cell (by have h1 : g < wr.heap.size := HGL.out; show g < W2.heap.size; omega)).trans ((B2.cell HGL.out).trans Y1.out))⟩)
      clear B2 hsz x0 x1 x2
      obtain ⟨m0, m1, m2, m3⟩ := HS5.out _ (Below.refl _ _)
      cases hgm : methB M
      · have hb1 := hbad.out (by rw [HM.out]; simp [okM, hgm])
        rw [hgm] at GM
        have HB1 := hid hb1
        clear hb1 hgm
        refine wp_region_held_drew (S := fun w' => w'.cell? ⟨wr.heap.size, 0, none⟩ = some (.string (bs M.nm)) ∧ w'.cell? ⟨wr.heap.size, 1, none⟩ = some (.int .i64 M.st) ∧ w'.cell? ⟨wr.heap.size, 2, none⟩ = some (.slice A1 n1 cc1) ∧ w'.cell? ⟨g, 1, none⟩ = some (.int .i64 s0)) (by kernel_rfl) (HS5.out _ (Below.refl _ _).drew) (fun hHeld => ?_)
        refine wpAnyH_take (i := 0) (v := ?_) rfl (by kernel_rfl) (by kernel_rfl) (by kernel_rfl) (fun _ _ _ h => h) (Or.inl ⟨by rfl, ?_⟩) (by assumption) ?_
        rotate_left
        · (intro w hSw; (try dsimp only at hSw); go_simp; with_reducible rfl)
        try simp only [Act.put, List.setIfInBounds_toArray, List.set_cons_zero, List.set_cons_succ]
        refine wpAnyH_ready (rs := [1]) (by kernel_rfl) (by simp) ?_
        refine AllReadyH.cons rfl (fun K hK => ?_) AllReadyH.nil
        go_simp
        go_at_call 90
        refine ((GM.out _ (R2.out.below (Below.refl _ _).drew))).mono ?_
        rintro e wa ⟨rfl, ba⟩
        have Fa := (Below.refl W2.heap.size W2).drew.trans (ba.mono (Nat.le_refl _))
        go_wp2_with fail
        refine hK.out _ _ (HS5.out _ Fa) (fun hHx => ?_)
        clear hHx hK K hHeld
        try simp only [Act.put, List.setIfInBounds_toArray, List.set_cons_zero, List.set_cons_succ]
        refine wpAnyH_take (i := 2) (v := ?_) rfl (by kernel_rfl) (by kernel_rfl) (by kernel_rfl) (fun _ _ _ h => h) (Or.inl ⟨by rfl, ?_⟩) (HS5.out _ Fa) ?_
        rotate_left
        · (intro w hSw; (try dsimp only at hSw); go_simp; with_reducible rfl)
        try simp only [Act.put, List.setIfInBounds_toArray, List.set_cons_zero, List.set_cons_succ]
        refine wpAnyH_take (i := 3) (v := ?_) rfl (by kernel_rfl) (by kernel_rfl) (by kernel_rfl) (fun _ _ _ h => h) (Or.inl ⟨by rfl, ?_⟩) (HS5.out _ Fa) ?_
        rotate_left
        · (intro w hSw; (try dsimp only at hSw); go_simp; with_reducible rfl)
        try simp only [Act.put, List.setIfInBounds_toArray, List.set_cons_zero, List.set_cons_succ]
        refine wpAnyH_pass (i := 4) (d := some 15) (by kernel_rfl) (by kernel_rfl) (by kernel_rfl) (by kernel_rfl) (fun _ _ _ _ h => h) (by kernel_rfl) (HS5.out _ Fa) ?_
        try simp only [Act.put, List.setIfInBounds_toArray, List.set_cons_zero, List.set_cons_succ]
        refine wpAnyH_pass (i := 5) (d := some 16) (by kernel_rfl) (by kernel_rfl) (by kernel_rfl) (by kernel_rfl) (fun _ _ _ _ h => h) (by kernel_rfl) (HS5.out _ Fa) ?_
        try simp only [Act.put, List.setIfInBounds_toArray, List.set_cons_zero, List.set_cons_succ]
        refine wpAnyH_pass (i := 6) (d := some 17) (by kernel_rfl) (by kernel_rfl) (by kernel_rfl) (by kernel_rfl) (fun _ _ _ _ h => h) (by kernel_rfl) (HS5.out _ Fa) ?_
        try simp only [Act.put, List.setIfInBounds_toArray, List.set_cons_zero, List.set_cons_succ]
        refine wpAnyH_pass (i := 7) (d := some 18) (by kernel_rfl) (by kernel_rfl) (by kernel_rfl) (by kernel_rfl) (fun _ _ _ _ h => h) (by kernel_rfl) (HS5.out _ Fa) ?_
        try simp only [Act.put, List.setIfInBounds_toArray, List.set_cons_zero, List.set_cons_succ]
        refine wpAnyH_pass (i := 8) (d := some 19) (by kernel_rfl) (by kernel_rfl) (by kernel_rfl) (by kernel_rfl) (fun _ _ _ _ h => h) (by kernel_rfl) (HS5.out _ Fa) ?_
        try simp only [Act.put, List.setIfInBounds_toArray, List.set_cons_zero, List.set_cons_succ]
        refine wpAnyH_pass (i := 9) (d := some 20) (by kernel_rfl) (by kernel_rfl) (by kernel_rfl) (by kernel_rfl) (fun _ _ _ _ h => h) (by kernel_rfl) (HS5.out _ Fa) ?_
        try simp only [Act.put, List.setIfInBounds_toArray, List.set_cons_zero, List.set_cons_succ]
        refine wpAnyH_pass (i := 10) (d := some 21) (by kernel_rfl) (by kernel_rfl) (by kernel_rfl) (by kernel_rfl) (fun _ _ _ _ h => h) (by kernel_rfl) (HS5.out _ Fa) ?_
        try simp only [Act.put, List.setIfInBounds_toArray, List.set_cons_zero, List.set_cons_succ]
        refine wpAnyH_ready (rs := [11]) (by kernel_rfl) (by simp) ?_
        refine AllReadyH.cons rfl (fun K hK => ?_) AllReadyH.nil
        go_simp
        refine hK.out _ _ (HS5.out _ Fa) (fun hHx => ?_)
        clear hHx hK K
        try simp only [Act.put, List.setIfInBounds_toArray, List.set_cons_zero, List.set_cons_succ]
        refine wpAnyH_done (by kernel_rfl) ?_ _
        have HFa := hid (HB2.out.trans (Fa.mono (by omega)))
        clear ba Fa m0 m1 m2 m3
        go_wp2
        go_ret
        exact ⟨ret_bool (by rw [HB1.out]; rfl), HFa.out⟩
      · have HGM := hid hgm
        rw [hgm] at GM
        clear hgm
        by_cases hst : M.st = s0
        · have hne : (M.st != s0) = false := by simp [hst]
          have hok := hid (show okM s0 M = true by simp [okM, HGM.out, hst])
          clear hst
          go_region_held3 (fun w' => w'.cell? ⟨wr.heap.size, 0, none⟩ = some (.string (bs M.nm)) ∧ w'.cell? ⟨wr.heap.size, 1, none⟩ = some (.int .i64 M.st) ∧ w'.cell? ⟨wr.heap.size, 2, none⟩ = some (.slice A1 n1 cc1) ∧ w'.cell? ⟨g, 1, none⟩ = some (.int .i64 s0))
            (first | exact HS5.out _ (Below.refl _ _) | exact HS5.out _ (Below.refl _ _).drew | exact HS5.out _ Fa)
            (first | (go_at_call 90; refine (GM.out _ (R2.out.below (Below.refl W2.heap.size W2).drew)).mono ?_; rintro e wa ⟨rfl, ba⟩; have Fa := (Below.refl W2.heap.size W2).drew.trans (ba.mono (Nat.le_refl _))))
          have HFa := hid (HB2.out.trans (Fa.mono (by omega)))
          clear ba Fa m0 m1 m2 m3
          go_wp2
          go_roundg (n - (k + 1))
          case measure => omega
          case rel =>
            refine ⟨k + 1, by omega, rfl, by go_num, hid (fun j hj h => ?_), HFa.out⟩
            rw [← HS0.out]
            by_cases hjk : j < k
            · exact hgd.out j hj hjk
            · obtain rfl : j = k := by omega
              rw [HM.out]; exact hok.out
        · have hne : (M.st != s0) = true := by simp [hst]
          have hb1 := hid (hbad.out (by rw [HM.out]; simp [okM, HGM.out, hst]))
          have HB1 := hid hb1.out
          clear hst hb1
          go_region_held3 (fun w' => w'.cell? ⟨wr.heap.size, 0, none⟩ = some (.string (bs M.nm)) ∧ w'.cell? ⟨wr.heap.size, 1, none⟩ = some (.int .i64 M.st) ∧ w'.cell? ⟨wr.heap.size, 2, none⟩ = some (.slice A1 n1 cc1) ∧ w'.cell? ⟨g, 1, none⟩ = some (.int .i64 s0))
            (first | exact HS5.out _ (Below.refl _ _) | exact HS5.out _ (Below.refl _ _).drew | exact HS5.out _ Fa)
            (first | (go_at_call 90; refine (GM.out _ (R2.out.below (Below.refl W2.heap.size W2).drew)).mono ?_; rintro e wa ⟨rfl, ba⟩; have Fa := (Below.refl W2.heap.size W2).drew.trans (ba.mono (Nat.le_refl _))))
          have HFa := hid (HB2.out.trans (Fa.mono (by omega)))
          clear ba Fa m0 m1 m2 m3
          go_wp2
          go_ret
          exact ⟨ret_bool (by rw [HB1.out]; rfl), HFa.out⟩
    · obtain rfl : k = n := by omega
      have hall := hid (methsB_all ms (fun j hj => hgd.out j hj (by have := HL.out; omega)))
      go_wp2_with fail
      refine (HIN.out _).mono ?_
      rintro e w' ⟨rfl, rfl⟩
      go_wp2
      go_ret
      exact ⟨ret_bool (by rw [hall.out, HCB.out]; rfl), hb⟩
end Go.Proofs.Ytdmipllbifofmaa
