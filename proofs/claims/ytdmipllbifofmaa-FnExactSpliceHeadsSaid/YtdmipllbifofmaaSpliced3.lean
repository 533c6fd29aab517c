/- Contracts of GoodSpliced, in the reference and in the program. No conditions beyond those stated. -/
import Derived.Test.YtdmipllbifofmaaSpliced
import Derived.Test.YtdmipllbifofmaaCalls
import Derived.Test.YtdmipllbifofmaaSkip
import Derived.Test.YtdmipllbifofmaaBox1
set_option linter.unusedVariables false
set_option linter.unusedSimpArgs false
set_option maxRecDepth 100000
namespace Go.Proofs.Ytdmipllbifofmaa
open Go.RowKit

set_option maxHeartbeats 4000000 in
theorem implGoodSpliced_any (g : Nat) (ms : List Meth) (vs : List Value) (k1 k2 : List UInt8) (w : World) (h : MethsTo w g ms ms.length vs) (ok : ∀ m ∈ ms, MOk m) (hn : ms.length ≤ 1048576) (hk1 : k1.length ≤ 1048576) (hk2 : k2.length ≤ 1048576) :
    Calls Try.prog 47 #[.slice (some ⟨g, 0, none⟩) ms.length ms.length, .agg #[.string (bs k1), .string (bs k2)]] w fun e w' => e = .returned (.bool (splicedB ms (k1, k2))) ∧ Below w.heap.size w w' := by
  have H := hid h
  have OK := hid ok
  obtain ⟨n, hn'⟩ : ∃ n, n = ms.length := ⟨_, rfl⟩
  have HL := hid hn'
  have HIN := hid (fun w0 => within_any (n : Int) 1 4 w0)
  rw [show (decide (1 ≤ (n : Int)) && decide ((n : Int) ≤ 4)) = countB ms by rw [hn']; rfl] at HIN
  rw [← hn'] at hn ⊢
  clear h ok hn'
  cases hcnt : countB ms
  · have HR := hid (show splicedB ms (k1, k2) = false by rw [splicedB, hcnt, Bool.and_false]; rfl)
    rw [hcnt] at HIN
    clear hcnt
    go_enter Try.func47, Try.ntmps47
    go_wp2_with fail
    have K1 := Blk.new w 32 #[.string (bs k1), .string (bs k2)]
    have BK : Below w.heap.size w (w.alloc (.cells #[.string (bs k1), .string (bs k2)] 32)) := (Below.refl _ _).alloc (Nat.le_refl _) _
    have hwK : w.heap.size ≤ (w.alloc (.cells #[.string (bs k1), .string (bs k2)] 32)).heap.size := BK.size
    have KC := hid (⟨K1.cell 0, K1.cell 1⟩ : _ ∧ _)
    clear K1
    generalize (w.alloc (.cells #[.string (bs k1), .string (bs k2)] 32)) = W1 at *
    have HBK := hid BK
    have HCC := hid (show ∀ w', Below W1.heap.size W1 w' → w'.cell? ⟨w.heap.size, 0, none⟩ = some (.string (bs k1)) ∧ w'.cell? ⟨w.heap.size, 1, none⟩ = some (.string (bs k2)) from fun w' h =>
      ⟨(h.cell (World.block_lt_of_cell? _ _ KC.out.1)).trans KC.out.1, (h.cell (World.block_lt_of_cell? _ _ KC.out.2)).trans KC.out.2⟩)
    clear KC BK
    refine (HIN.out _).mono ?_
    rintro e w' ⟨rfl, rfl⟩
    go_wp2
    go_ret
    exact ⟨ret_bool HR.out.symm, HBK.out⟩
  · have hcn := hid hcnt
    rw [hcnt] at HIN
    clear hcnt
    have hcnt := hcn
    go_enter Try.func47, Try.ntmps47
    go_wp2_with fail
    have K1 := Blk.new w 32 #[.string (bs k1), .string (bs k2)]
    have BK : Below w.heap.size w (w.alloc (.cells #[.string (bs k1), .string (bs k2)] 32)) := (Below.refl _ _).alloc (Nat.le_refl _) _
    have hwK : w.heap.size ≤ (w.alloc (.cells #[.string (bs k1), .string (bs k2)] 32)).heap.size := BK.size
    have KC := hid (⟨K1.cell 0, K1.cell 1⟩ : _ ∧ _)
    clear K1
    generalize (w.alloc (.cells #[.string (bs k1), .string (bs k2)] 32)) = W1 at *
    have HBK := hid BK
    have HCC := hid (show ∀ w', Below W1.heap.size W1 w' → w'.cell? ⟨w.heap.size, 0, none⟩ = some (.string (bs k1)) ∧ w'.cell? ⟨w.heap.size, 1, none⟩ = some (.string (bs k2)) from fun w' h =>
      ⟨(h.cell (World.block_lt_of_cell? _ _ KC.out.1)).trans KC.out.1, (h.cell (World.block_lt_of_cell? _ _ KC.out.2)).trans KC.out.2⟩)
    clear KC BK
    refine (HIN.out _).mono ?_
    rintro e w' ⟨rfl, rfl⟩
    go_wp2
    go_loopg [13] n (fun gk u wr => ∃ k : Nat, k ≤ n ∧ gk = n - k ∧ u = .int .i64 k ∧ Hid (∀ j (hj : j < ms.length), j < k → okM (headSt ms) ms[j] = true) ∧ Below W1.heap.size W1 wr)
    case atStart => exact ⟨0, by omega, by omega, rfl, hid (fun j _ h => by omega), Below.refl _ _⟩
    case round =>
      obtain ⟨k, hk, rfl, rfl, hgd, hb⟩ := hrel
      by_cases hlt : k < n
      · have hkm : k < ms.length := by have := HL.out; omega
        have hbw := hid (HBK.out.trans (hb.mono hwK))
        obtain ⟨M, n1, cc1, A1, hM, x0, x1, x2, _, r1⟩ := methsTo_at (H.out.below hbw.out) hkm
        obtain ⟨_, y1, _, _⟩ := (H.out.below hbw.out).2.1 0 (by have := H.out.1; omega) (by omega)
        rw [← headSt_at ms (by omega)] at y1
        have y1 : wr.cell? ⟨g, 1, none⟩ = some (.int .i64 (headSt ms)) := by simpa using y1
        obtain ⟨s0, hs0⟩ : ∃ s0, s0 = headSt ms := ⟨_, rfl⟩
        rw [← hs0] at y1 hgd
        have hbad := hid (fun h => methsB_bad ms k hkm (by rw [← hs0]; exact h))
        have HS0 := hid hs0
        have HB := hid hb
        have hbs := hb.size
        have HM := hid hM
        have R1 := hid r1
        have hj0 : (0 : Int) ≤ (k : Int) := by omega
        have hj1 : (k : Int) < (n : Int) := by omega
        have hi0 : (0 : Int) < (n : Int) := by omega
        have hi1 : 0 < n := by omega
        have hmo := OK.out _ (List.getElem_mem hkm)
        rw [hM] at hmo
        obtain ⟨w1, w2, w3, w4⟩ := hmo
        have hn1 : n1 = M.ch.length := by have := r1.1; rw [strV_len] at this; exact this.symm
        have GM := hid (fun w0 (rd : Rd w0 A1 n1 (strV M.ch)) => goodMethod_any M A1 n1 cc1 w0 w1 w2 rd (by omega) w4)
        have Y1 := hid y1
        have HGL := hid (World.block_lt_of_cell? wr _ y1)
        clear r1 hb hM hs0 w1 w2 w3 w4 hn1 y1
        go_wp2_with fail
        obtain ⟨B2, hsz, HC⟩ := box_mk1 30 wr M.nm M.st (.slice A1 n1 cc1)
        generalize (wr.alloc (.cells #[.string (bs M.nm), .int .i64 M.st, .slice A1 n1 cc1] 30)) = W2 at *
        have hw2 : wr.heap.size ≤ W2.heap.size := B2.size
        have R2 := hid (R1.out.below B2)
        have HB2 := hid (HB.out.trans (B2.mono hbs))
        have HS5 := hid (show ∀ w', Below W2.heap.size W2 w' → w'.cell? ⟨wr.heap.size, 0, none⟩ = some (.string (bs M.nm)) ∧ w'.cell? ⟨wr.heap.size, 1, none⟩ = some (.int .i64 M.st) ∧ w'.cell? ⟨wr.heap.size, 2, none⟩ = some (.slice A1 n1 cc1) ∧ w'.cell? ⟨g, 1, none⟩ = some (.int .i64 s0) from fun w' h => by
          obtain ⟨a0, a1, a2⟩ := HC.out _ h
          exact ⟨a0, a1, a2, ((h.cell (by have h1 : g < wr.heap.size := HGL.out; show g < W2.heap.size; omega)).trans ((B2.cell HGL.out).trans Y1.out))⟩)
        clear B2 hsz x0 x1 x2
        obtain ⟨m0, m1, m2, m3⟩ := HS5.out _ (Below.refl _ _)
        cases hgm : methB M
        · have hb1 := hbad.out (by rw [HM.out]; simp [okM, hgm])
          rw [hgm] at GM
          have HB1 := hid hb1
          clear hb1 hgm
          refine wp_region_held_drew (S := fun w' => w'.cell? ⟨wr.heap.size, 0, none⟩ = some (.string (bs M.nm)) ∧ w'.cell? ⟨wr.heap.size, 1, none⟩ = some (.int .i64 M.st) ∧ w'.cell? ⟨wr.heap.size, 2, none⟩ = some (.slice A1 n1 cc1) ∧ w'.cell? ⟨g, 1, none⟩ = some (.int .i64 s0)) (by kernel_rfl) (HS5.out _ (Below.refl _ _).drew) (fun hHeld => ?_)
          refine wpAnyH_take (i := 0) (v := ?_) rfl (by kernel_rfl) (by kernel_rfl) (by kernel_rfl) (fun _ _ _ h => h) (Or.inl ⟨by rfl, ?_⟩) (by assumption) ?_
          rotate_left
          · (intro w hSw; (try dsimp only at hSw); go_simp; with_reducible rfl)
          try simp only [Act.put, List.setIfInBounds_toArray, List.set_cons_zero, List.set_cons_succ]
          refine wpAnyH_ready (rs := [1]) (by kernel_rfl) (by simp) ?_
          refine AllReadyH.cons rfl (fun K hK => ?_) AllReadyH.nil
          go_simp
          go_at_call 59
          refine ((GM.out _ (R2.out.below (Below.refl _ _).drew))).mono ?_
          rintro e wa ⟨rfl, ba⟩
          have Fa := (Below.refl W2.heap.size W2).drew.trans (ba.mono (Nat.le_refl _))
          go_wp2_with fail
          refine hK.out _ _ (HS5.out _ Fa) (fun hHx => ?_)
          clear hHx hK K hHeld
          try simp only [Act.put, List.setIfInBounds_toArray, List.set_cons_zero, List.set_cons_succ]
          refine wpAnyH_take (i := 2) (v := ?_) rfl (by kernel_rfl) (by kernel_rfl) (by kernel_rfl) (fun _ _ _ h => h) (Or.inl ⟨by rfl, ?_⟩) (HS5.out _ Fa) ?_
          rotate_left
          · (intro w hSw; (try dsimp only at hSw); go_simp; with_reducible rfl)
          try simp only [Act.put, List.setIfInBounds_toArray, List.set_cons_zero, List.set_cons_succ]
          refine wpAnyH_take (i := 3) (v := ?_) rfl (by kernel_rfl) (by kernel_rfl) (by kernel_rfl) (fun _ _ _ h => h) (Or.inl ⟨by rfl, ?_⟩) (HS5.out _ Fa) ?_
          rotate_left
          · (intro w hSw; (try dsimp only at hSw); go_simp; with_reducible rfl)
          try simp only [Act.put, List.setIfInBounds_toArray, List.set_cons_zero, List.set_cons_succ]
          refine wpAnyH_pass (i := 4) (d := some 21) (by kernel_rfl) (by kernel_rfl) (by kernel_rfl) (by kernel_rfl) (fun _ _ _ _ h => h) (by kernel_rfl) (HS5.out _ Fa) ?_
          try simp only [Act.put, List.setIfInBounds_toArray, List.set_cons_zero, List.set_cons_succ]
          refine wpAnyH_pass (i := 5) (d := some 22) (by kernel_rfl) (by kernel_rfl) (by kernel_rfl) (by kernel_rfl) (fun _ _ _ _ h => h) (by kernel_rfl) (HS5.out _ Fa) ?_
          try simp only [Act.put, List.setIfInBounds_toArray, List.set_cons_zero, List.set_cons_succ]
          refine wpAnyH_pass (i := 6) (d := some 23) (by kernel_rfl) (by kernel_rfl) (by kernel_rfl) (by kernel_rfl) (fun _ _ _ _ h => h) (by kernel_rfl) (HS5.out _ Fa) ?_
          try simp only [Act.put, List.setIfInBounds_toArray, List.set_cons_zero, List.set_cons_succ]
          refine wpAnyH_pass (i := 7) (d := some 24) (by kernel_rfl) (by kernel_rfl) (by kernel_rfl) (by kernel_rfl) (fun _ _ _ _ h => h) (by kernel_rfl) (HS5.out _ Fa) ?_
          try simp only [Act.put, List.setIfInBounds_toArray, List.set_cons_zero, List.set_cons_succ]
          refine wpAnyH_pass (i := 8) (d := some 25) (by kernel_rfl) (by kernel_rfl) (by kernel_rfl) (by kernel_rfl) (fun _ _ _ _ h => h) (by kernel_rfl) (HS5.out _ Fa) ?_
          try simp only [Act.put, List.setIfInBounds_toArray, List.set_cons_zero, List.set_cons_succ]
          refine wpAnyH_pass (i := 9) (d := some 26) (by kernel_rfl) (by kernel_rfl) (by kernel_rfl) (by kernel_rfl) (fun _ _ _ _ h => h) (by kernel_rfl) (HS5.out _ Fa) ?_
          try simp only [Act.put, List.setIfInBounds_toArray, List.set_cons_zero, List.set_cons_succ]
          refine wpAnyH_pass (i := 10) (d := some 27) (by kernel_rfl) (by kernel_rfl) (by kernel_rfl) (by kernel_rfl) (fun _ _ _ _ h => h) (by kernel_rfl) (HS5.out _ Fa) ?_
          try simp only [Act.put, List.setIfInBounds_toArray, List.set_cons_zero, List.set_cons_succ]
          refine wpAnyH_ready (rs := [11]) (by kernel_rfl) (by simp) ?_
          refine AllReadyH.cons rfl (fun K hK => ?_) AllReadyH.nil
          go_simp
          refine hK.out _ _ (HS5.out _ Fa) (fun hHx => ?_)
          clear hHx hK K
          try simp only [Act.put, List.setIfInBounds_toArray, List.set_cons_zero, List.set_cons_succ]
          refine wpAnyH_done (by kernel_rfl) ?_ _
          have HFa := hid (HB2.out.trans (Fa.mono (by omega)))
          clear ba Fa m0 m1 m2 m3
          go_wp2
          go_ret
          exact ⟨ret_bool (by rw [splicedB, HB1.out]; rfl), HBK.out.trans (HFa.out.mono hwK)⟩
        · have HGM := hid hgm
          rw [hgm] at GM
          clear hgm
          by_cases hst : M.st = s0
          · have hne : (M.st != s0) = false := by simp [hst]
            have hok := hid (show okM s0 M = true by simp [okM, HGM.out, hst])
            clear hst
            go_region_held3 (fun w' => w'.cell? ⟨wr.heap.size, 0, none⟩ = some (.string (bs M.nm)) ∧ w'.cell? ⟨wr.heap.size, 1, none⟩ = some (.int .i64 M.st) ∧ w'.cell? ⟨wr.heap.size, 2, none⟩ = some (.slice A1 n1 cc1) ∧ w'.cell? ⟨g, 1, none⟩ = some (.int .i64 s0))
              (first | exact HS5.out _ (Below.refl _ _) | exact HS5.out _ (Below.refl _ _).drew | exact HS5.out _ Fa)
              (first | (go_at_call 59; refine (GM.out _ (R2.out.below (Below.refl W2.heap.size W2).drew)).mono ?_; rintro e wa ⟨rfl, ba⟩; have Fa := (Below.refl W2.heap.size W2).drew.trans (ba.mono (Nat.le_refl _))))
            have HFa := hid (HB2.out.trans (Fa.mono (by omega)))
            clear ba Fa m0 m1 m2 m3
            go_wp2
            go_roundg (n - (k + 1))
            case measure => omega
            case rel =>
              refine ⟨k + 1, by omega, rfl, by go_num, hid (fun j hj h => ?_), HFa.out⟩
              rw [← HS0.out]
              by_cases hjk : j < k
              · exact hgd.out j hj hjk
              · obtain rfl : j = k := by omega
                rw [HM.out]; exact hok.out
          · have hne : (M.st != s0) = true := by simp [hst]
            have hb1 := hid (hbad.out (by rw [HM.out]; simp [okM, HGM.out, hst]))
            have HB1 := hid hb1.out
            clear hst hb1
            go_region_held3 (fun w' => w'.cell? ⟨wr.heap.size, 0, none⟩ = some (.string (bs M.nm)) ∧ w'.cell? ⟨wr.heap.size, 1, none⟩ = some (.int .i64 M.st) ∧ w'.cell? ⟨wr.heap.size, 2, none⟩ = some (.slice A1 n1 cc1) ∧ w'.cell? ⟨g, 1, none⟩ = some (.int .i64 s0))
              (first | exact HS5.out _ (Below.refl _ _) | exact HS5.out _ (Below.refl _ _).drew | exact HS5.out _ Fa)
              (first | (go_at_call 59; refine (GM.out _ (R2.out.below (Below.refl W2.heap.size W2).drew)).mono ?_; rintro e wa ⟨rfl, ba⟩; have Fa := (Below.refl W2.heap.size W2).drew.trans (ba.mono (Nat.le_refl _))))
            have HFa := hid (HB2.out.trans (Fa.mono (by omega)))
            clear ba Fa m0 m1 m2 m3
            go_wp2
            go_ret
            exact ⟨ret_bool (by rw [splicedB, HB1.out]; rfl), HBK.out.trans (HFa.out.mono hwK)⟩
      · obtain rfl : k = n := by omega
        have hall := hid (methsB_all ms (fun j hj => hgd.out j hj (by have := HL.out; omega)))
        have hbw := hid (HBK.out.trans (hb.mono hwK))
        have hni : k = ms.length := HL.out
        have hpos : 0 < ms.length := by have := hcnt.out; simp [countB] at this; omega
        obtain ⟨M, n1, cc1, A1, hM, x0, x1, x2, _, r1⟩ := methsTo_at (H.out.below hbw.out) hpos
        have x0 : wr.cell? ⟨g, 0, none⟩ = some (Value.string (bs M.nm)) := by simpa using x0
        have x1 : wr.cell? ⟨g, 1, none⟩ = some (Value.int .i64 M.st) := by simpa using x1
        have x2 : wr.cell? ⟨g, 2, none⟩ = some (Value.slice A1 n1 cc1) := by simpa using x2
        have hMh : ms.headD default = M := (head_at ms hpos).trans hM
        have hmo := OK.out _ (List.getElem_mem hpos)
        rw [hM] at hmo
        obtain ⟨w1, w2, w3, w4⟩ := hmo
        have hn1 : n1 = M.ch.length := by have := r1.1; rw [strV_len] at this; exact this.symm
        have R1 := hid r1
        have G8 := hid (fun w0 (rd : Rd w0 A1 n1 (strV M.ch)) => goodCalls_any M (k1, k2) A1 n1 cc1 w0 w1 w2 rd (by omega) w4 hk1 hk2)
        have HR := hid (show splicedB ms (k1, k2) = callsB M (k1, k2) by rw [splicedB, hall.out, hcnt.out, hMh]; rfl)
        obtain ⟨P0, hP0⟩ : ∃ P0, P0 = callsB M (k1, k2) := ⟨_, rfl⟩
        rw [← hP0] at G8 HR
        have hi0 : (0 : Int) < (k : Int) := by omega
        have hi1 : 0 < k := by omega
        have HB := hid hb
        have HS5 := hid (show ∀ w', Below wr.heap.size wr w' → w'.cell? ⟨w.heap.size, 0, none⟩ = some (.string (bs k1)) ∧ w'.cell? ⟨w.heap.size, 1, none⟩ = some (.string (bs k2)) ∧ w'.cell? ⟨g, 0, none⟩ = some (.string (bs M.nm)) ∧ w'.cell? ⟨g, 1, none⟩ = some (.int .i64 M.st) ∧ w'.cell? ⟨g, 2, none⟩ = some (.slice A1 n1 cc1) from fun w' h => by
          obtain ⟨a0, a1⟩ := HCC.out _ (HB.out.trans (h.mono HB.out.size))
          exact ⟨a0, a1, (h.cell (World.block_lt_of_cell? _ _ x0)).trans x0, (h.cell (World.block_lt_of_cell? _ _ x1)).trans x1, (h.cell (World.block_lt_of_cell? _ _ x2)).trans x2⟩)
        clear hpos hM hMh r1 hn1 x0 x1 x2 w1 w2 w3 w4 hP0 hni hb
        obtain ⟨q0, q1, m0, m1, m2⟩ := HS5.out _ (Below.refl _ _)
        go_wp2_with fail
        go_region_held3 (fun w' => w'.cell? ⟨w.heap.size, 0, none⟩ = some (.string (bs k1)) ∧ w'.cell? ⟨w.heap.size, 1, none⟩ = some (.string (bs k2)) ∧ w'.cell? ⟨g, 0, none⟩ = some (.string (bs M.nm)) ∧ w'.cell? ⟨g, 1, none⟩ = some (.int .i64 M.st) ∧ w'.cell? ⟨g, 2, none⟩ = some (.slice A1 n1 cc1))
          (first | exact HS5.out _ (Below.refl _ _) | exact HS5.out _ (Below.refl _ _).drew | exact HS5.out _ Fb)
          (first | (go_at_call 20; refine (G8.out _ (R1.out.below (Below.refl wr.heap.size wr).drew)).mono ?_; rintro e wb ⟨rfl, bb⟩; have Fb := (Below.refl wr.heap.size wr).drew.trans (bb.mono (Nat.le_refl _))))
        have HFb := hid (hbw.out.trans (Fb.mono (by have := hbw.out.size; omega)))
        clear bb Fb q0 q1 m0 m1 m2
        go_wp2
        go_ret
        exact ⟨ret_bool HR.out.symm, HFb.out⟩
end Go.Proofs.Ytdmipllbifofmaa
