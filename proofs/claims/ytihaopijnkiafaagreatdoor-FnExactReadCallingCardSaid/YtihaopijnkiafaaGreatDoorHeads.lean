/- Contract of the program's heads of a touch. No conditions beyond those stated. -/
import Derived.Test.YtihaopijnkiafaaGreatDoorHead
import Derived.Test.YtihaopijnkiafaaGreatDoorExpC
import Derived.Test.YtihaopijnkiafaaGreatDoorMap
import Derived.Test.YtihaopijnkiafaaGreatDoorHeadsP
set_option linter.unusedVariables false
set_option linter.unusedSimpArgs false
set_option maxRecDepth 100000
namespace Go.Proofs.YtihaopijnkiafaaGreatDoor
open Go.RowKit

/-- The map in block g can take j entries more. -/
def Ins (j : Nat) (X : World) (g : Nat) : Prop := ∃ n, n + j ≤ 1000 ∧ MapN X g n
/-- How far the map of the calls' lead heads has come (n entries, and which), in a world in which nothing below the mark has turned. -/
def Stg (s1 s2 s3 : List UInt8) (W X : World) (g n : Nat) (f1 f2 f3 : Bool) : Prop := (W.heap.size ≤ g ∧ Below W.heap.size W X) ∧ MapN X g n ∧ (f1 = true → AtN X g n 112 s1) ∧ (f2 = true → AtN X g n 98 s2) ∧ (f3 = true → AtN X g n 115 s3)
section
variable {s1 s2 s3 : List UInt8} {W X Y : World} {g n : Nat} {f1 f2 f3 : Bool}
@[go_sem] theorem run_ins {k : Int} {s : List UInt8} (h : Ins 1 X g) (h0 : 0 ≤ k) (h1 : k < 256) (hs : s.length ≤ 1048576) : (Instr.mapUpdate 92 (.map (some g)) (.int .u8 k) (.string (bs s))).run Tryz.prog X = .ok () (putW X g k s) := by
  obtain ⟨n, hn, h⟩ := h
  exact (put_run h (by omega) h0 h1 hs).1
theorem ins_put {j : Nat} {k : Int} {s : List UInt8} (h : Ins (j + 1) X g) (hj : 1 ≤ j) (h0 : 0 ≤ k) (h1 : k < 256) (hs : s.length ≤ 1048576) : Ins j (putW X g k s) g := by
  obtain ⟨n, hn, h⟩ := h
  exact ⟨n + 1, by omega, (put_run h (by omega) h0 h1 hs).2.2.1.map⟩
@[go_sem] theorem ins1_put {k : Int} {s : List UInt8} (h : Ins 2 X g) (h0 : 0 ≤ k) (h1 : k < 256) (hs : s.length ≤ 1048576) : Ins 1 (putW X g k s) g := ins_put h (Nat.le_refl _) h0 h1 hs
@[go_sem] theorem ins2_put {k : Int} {s : List UInt8} (h : Ins 3 X g) (h0 : 0 ≤ k) (h1 : k < 256) (hs : s.length ≤ 1048576) : Ins 2 (putW X g k s) g := ins_put h (by omega) h0 h1 hs
@[go_sem] theorem ins1_put2 {k k' : Int} {s s' : List UInt8} (h : Ins 3 X g) (h0 : 0 ≤ k) (h1 : k < 256) (hs : s.length ≤ 1048576) (h0' : 0 ≤ k') (h1' : k' < 256) (hs' : s'.length ≤ 1048576) : Ins 1 (putW (putW X g k s) g k' s') g := ins1_put (ins2_put h h0 h1 hs) h0' h1' hs'
@[go_sem] theorem ins1_new : Ins 1 (Y.alloc (.map #[] 0)) Y.heap.size := ⟨0, by omega, mapN_new Y⟩
@[go_sem] theorem ins2_new : Ins 2 (Y.alloc (.map #[] 0)) Y.heap.size := ⟨0, by omega, mapN_new Y⟩
@[go_sem] theorem ins3_new : Ins 3 (Y.alloc (.map #[] 0)) Y.heap.size := ⟨0, by omega, mapN_new Y⟩
@[go_sem] theorem ins1_newD : Ins 1 (Y.alloc (.map #[] 0)).drew Y.heap.size := ⟨0, by omega, mapN_new Y⟩
@[go_sem] theorem ins2_newD : Ins 2 (Y.alloc (.map #[] 0)).drew Y.heap.size := ⟨0, by omega, mapN_new Y⟩
@[go_sem] theorem ins3_newD : Ins 3 (Y.alloc (.map #[] 0)).drew Y.heap.size := ⟨0, by omega, mapN_new Y⟩
theorem stg_ins (h : Stg s1 s2 s3 W X g n f1 f2 f3) (hn : n ≤ 900) : Ins 1 X g ∧ Ins 2 X g ∧ Ins 3 X g := ⟨⟨n, by omega, h.2.1⟩, ⟨n, by omega, h.2.1⟩, ⟨n, by omega, h.2.1⟩⟩
theorem stg_b (h : Stg s1 s2 s3 W X g n f1 f2 f3) : Below W.heap.size W X := h.1.2
theorem stg_new (h : Below W.heap.size W X) : Stg s1 s2 s3 W (X.alloc (.map #[] 0)) X.heap.size 0 false false false := ⟨⟨h.size, h.alloc h.size _⟩, mapN_new X, nofun, nofun, nofun⟩
theorem stg_newD (h : Below W.heap.size W X) : Stg s1 s2 s3 W (X.alloc (.map #[] 0)).drew X.heap.size 0 false false false := ⟨⟨h.size, (h.alloc h.size _).drew⟩, mapN_new X, nofun, nofun, nofun⟩
theorem stg_put1 (h : Stg s1 s2 s3 W X g n f1 f2 f3) (l1 : s1.length ≤ 1048576) (hn : n ≤ 1000) : Stg s1 s2 s3 W (putW X g 112 s1) g (n + 1) true f2 f3 := by
  obtain ⟨_, r2, r3, r4⟩ := put_run h.2.1 hn (show (0 : Int) ≤ 112 by omega) (by omega) l1
  exact ⟨⟨h.1.1, h.1.2.grown r2 h.1.2.size (fun q hq => by injection hq with hq; subst hq; exact h.1.1)⟩, r3.map, fun _ => r3, fun hf => r4 _ _ (by decide) (h.2.2.2.1 hf), fun hf => r4 _ _ (by decide) (h.2.2.2.2 hf)⟩
theorem stg_put2 (h : Stg s1 s2 s3 W X g n f1 f2 f3) (l2 : s2.length ≤ 1048576) (hn : n ≤ 1000) : Stg s1 s2 s3 W (putW X g 98 s2) g (n + 1) f1 true f3 := by
  obtain ⟨_, r2, r3, r4⟩ := put_run h.2.1 hn (show (0 : Int) ≤ 98 by omega) (by omega) l2
  exact ⟨⟨h.1.1, h.1.2.grown r2 h.1.2.size (fun q hq => by injection hq with hq; subst hq; exact h.1.1)⟩, r3.map, fun hf => r4 _ _ (by decide) (h.2.2.1 hf), fun _ => r3, fun hf => r4 _ _ (by decide) (h.2.2.2.2 hf)⟩
theorem stg_put3 (h : Stg s1 s2 s3 W X g n f1 f2 f3) (l3 : s3.length ≤ 1048576) (hn : n ≤ 1000) : Stg s1 s2 s3 W (putW X g 115 s3) g (n + 1) f1 f2 true := by
  obtain ⟨_, r2, r3, r4⟩ := put_run h.2.1 hn (show (0 : Int) ≤ 115 by omega) (by omega) l3
  exact ⟨⟨h.1.1, h.1.2.grown r2 h.1.2.size (fun q hq => by injection hq with hq; subst hq; exact h.1.1)⟩, r3.map, fun hf => r4 _ _ (by decide) (h.2.2.1 hf), fun hf => r4 _ _ (by decide) (h.2.2.2.1 hf), fun _ => r3⟩
theorem stg_put1' (l1 : s1.length ≤ 1048576) (h : Stg s1 s2 s3 W X g n f1 f2 f3) (hn : n ≤ 1000) : Stg s1 s2 s3 W (putW X g 112 s1) g (n + 1) true f2 f3 := stg_put1 h l1 hn
theorem stg_put2' (l2 : s2.length ≤ 1048576) (h : Stg s1 s2 s3 W X g n f1 f2 f3) (hn : n ≤ 1000) : Stg s1 s2 s3 W (putW X g 98 s2) g (n + 1) f1 true f3 := stg_put2 h l2 hn
theorem stg_put3' (l3 : s3.length ≤ 1048576) (h : Stg s1 s2 s3 W X g n f1 f2 f3) (hn : n ≤ 1000) : Stg s1 s2 s3 W (putW X g 115 s3) g (n + 1) f1 f2 true := stg_put3 h l3 hn
theorem stg_below (h : Stg s1 s2 s3 W X g n f1 f2 f3) (hb : Below X.heap.size X Y) : Stg s1 s2 s3 W Y g n f1 f2 f3 :=
  ⟨⟨h.1.1, h.1.2.trans (hb.mono h.1.2.size)⟩, h.2.1.below hb, fun hf => (h.2.2.1 hf).below hb, fun hf => (h.2.2.2.1 hf).below hb, fun hf => (h.2.2.2.2 hf).below hb⟩
end
/-- What stands behind the making of the map. -/
def MapCut (s1 s2 s3 : List UInt8) (W : World) (s : Value) (Z : World) : Prop := ∃ g n, s = .map (some g) ∧ Stg s1 s2 s3 W Z g n true true true

theorem late {G P : Prop} (main : P → G) (pf : P) : G := main pf
theorem stg_newN {s1 s2 s3 : List UInt8} {W X : World} (h : Below W.heap.size W X) : Stg s1 s2 s3 W (X.alloc (.map #[] 0)) X.heap.size 0 false false false := stg_new h
set_option maxHeartbeats 8000000 in
theorem heads_any (N : Nat) (nm t : List UInt8) (ch : List (List UInt8)) (k : List UInt8 × List UInt8) (A : Option Addr) (n c : Nat) (w : World) (lo : 3 ≤ N) (hi : N ≤ 8) (hr : Rd w A n (strV ch)) (hn : n ≤ 1048576) (l1 : 1 ≤ ch.length) (hs : ∀ x ∈ ch, okChange (N : Int) x = true) (hb1 : okChange (N : Int) k.1 = true) (hb2 : okChange (N : Int) k.2 = true) (ht : t.length ≤ 1000) (hcall : t.all callB = true) :
    Calls Tryz.prog 47 #[.agg #[.string (bs nm), .int .i64 N, .slice A n c], .agg #[.string (bs k.1), .string (bs k.2)], .string (bs t)] w (OneSn w (t.length + 1) (headsTo N ch k t t.length)) := by
  have HCALL := hid hcall
  have BC1 := fun (w0 : World) (rd : Rd w0 A n (strV ch)) => hid (callHead_any N nm [112] ch k A n c w0 lo hi rd hn l1 hs hb1 hb2)
  have BC2 := fun (w0 : World) (rd : Rd w0 A n (strV ch)) => hid (callHead_any N nm [98] ch k A n c w0 lo hi rd hn l1 hs hb1 hb2)
  have BC3 := fun (w0 : World) (rd : Rd w0 A n (strV ch)) => hid (callHead_any N nm [115] ch k A n c w0 lo hi rd hn l1 hs hb1 hb2)
  have HL1 := hid (show (callHeadL N ch k [112]).length ≤ 1048576 by rw [callHeadL_len]; omega)
  have HL2 := hid (show (callHeadL N ch k [98]).length ≤ 1048576 by rw [callHeadL_len]; omega)
  have HL3 := hid (show (callHeadL N ch k [115]).length ≤ 1048576 by rw [callHeadL_len]; omega)
  have RS := hid hr
  obtain ⟨k1, k2⟩ := k
  clear hr hs hb1 hb2 hcall
  obtain ⟨s1, hs1⟩ : ∃ s, s = callHeadL N ch (k1, k2) [112] := ⟨_, rfl⟩
  obtain ⟨s2, hs2⟩ : ∃ s, s = callHeadL N ch (k1, k2) [98] := ⟨_, rfl⟩
  obtain ⟨s3, hs3⟩ : ∃ s, s = callHeadL N ch (k1, k2) [115] := ⟨_, rfl⟩
  rw [← hs1] at BC1 HL1
  rw [← hs2] at BC2 HL2
  rw [← hs3] at BC3 HL3
  dsimp only at BC1 BC2 BC3
  have HS1 := hid hs1
  have HS2 := hid hs2
  have HS3 := hid hs3
  clear hs1 hs2 hs3
  go_enter Tryz.func47, Tryz.ntmps47
  go_upto_region 1 with fail
  obtain ⟨B2, hsz, HC⟩ := box_mk w nm k1 k2 (N : Int) (.slice A n c)
  have R2 := hid (RS.out.below B2)
  have HB2 := hid B2
  have hw2 := B2.size
  generalize ((w.alloc (.cells #[.string (bs nm), .int .i64 (N : Int), .slice A n c] 31)).alloc (.cells #[.string (bs k1), .string (bs k2)] 33)) = W2 at *
  clear B2 hsz
  have HS5 : ∀ W', Below W2.heap.size W2 W' → W'.cell? ⟨w.heap.size, 0, none⟩ = some (.string (bs nm)) ∧ W'.cell? ⟨w.heap.size, 1, none⟩ = some (.int .i64 (N : Int)) ∧ W'.cell? ⟨w.heap.size, 2, none⟩ = some (.slice A n c) ∧ W'.cell? ⟨w.heap.size + 1, 0, none⟩ = some (.string (bs k1)) ∧ W'.cell? ⟨w.heap.size + 1, 1, none⟩ = some (.string (bs k2)) := fun W' h => by
    obtain ⟨⟨a0, a1, a2⟩, a3, a4⟩ := HC.out _ h
    exact ⟨a0, a1, a2, a3, a4⟩
  have HHS5 := hid HS5
  clear HS5 HC
  obtain ⟨n0, n1, n2, p0, p1⟩ := HHS5.out _ (Below.refl W2.heap.size W2)
  have hmm := @run_makeMap Tryz.prog
  go_cut [7] (fun s7 wx => MapCut s1 s2 s3 W2 s7 wx)
  case first =>
   have hl1 := HL1.out
   have hl2 := HL2.out
   have hl3 := HL3.out
   refine wp_region_held_drew (S := fun w' => w'.cell? ⟨w.heap.size, 0, none⟩ = some (.string (bs nm)) ∧ w'.cell? ⟨w.heap.size, 1, none⟩ = some (.int .i64 (N : Int)) ∧ w'.cell? ⟨w.heap.size, 2, none⟩ = some (.slice A n c) ∧ w'.cell? ⟨w.heap.size + 1, 0, none⟩ = some (.string (bs k1)) ∧ w'.cell? ⟨w.heap.size + 1, 1, none⟩ = some (.string (bs k2))) (by kernel_rfl) (HHS5.out _ (Below.refl W2.heap.size W2).drew) (fun hHeld => ?_)
   have hb0 : Below W2.heap.size W2 W2.drew := (Below.refl _ _).drew
   clear n0 n1 n2 p0 p1
   generalize W2.drew = X at hb0 hHeld ⊢
   refine wpAnyH_take (i := 1) (v := ?_) rfl (by kernel_rfl) (by kernel_rfl) (by kernel_rfl) (fun _ _ _ h => h) (Or.inl ⟨by rfl, ?_⟩) (by assumption) ?_
   rotate_left
   · (intro w hSw; (try dsimp only at hSw); go_simp; with_reducible rfl)
   try simp only [Act.put, List.setIfInBounds_toArray, List.set_cons_zero, List.set_cons_succ]
   refine wpAnyH_take (i := 2) (v := ?_) rfl (by kernel_rfl) (by kernel_rfl) (by kernel_rfl) (fun _ _ _ h => h) (Or.inl ⟨by rfl, ?_⟩) (by assumption) ?_
   rotate_left
   · (intro w hSw; (try dsimp only at hSw); go_simp; with_reducible rfl)
   try simp only [Act.put, List.setIfInBounds_toArray, List.set_cons_zero, List.set_cons_succ]
   refine wpAnyH_take (i := 5) (v := ?_) rfl (by kernel_rfl) (by kernel_rfl) (by kernel_rfl) (fun _ _ _ h => h) (Or.inl ⟨by rfl, ?_⟩) (by assumption) ?_
   rotate_left
   · (intro w hSw; (try dsimp only at hSw); go_simp; with_reducible rfl)
   try simp only [Act.put, List.setIfInBounds_toArray, List.set_cons_zero, List.set_cons_succ]
   refine wpAnyH_take (i := 6) (v := ?_) rfl (by kernel_rfl) (by kernel_rfl) (by kernel_rfl) (fun _ _ _ h => h) (Or.inl ⟨by rfl, ?_⟩) (by assumption) ?_
   rotate_left
   · (intro w hSw; (try dsimp only at hSw); go_simp; with_reducible rfl)
   try simp only [Act.put, List.setIfInBounds_toArray, List.set_cons_zero, List.set_cons_succ]
   refine wpAnyH_take (i := 9) (v := ?_) rfl (by kernel_rfl) (by kernel_rfl) (by kernel_rfl) (fun _ _ _ h => h) (Or.inl ⟨by rfl, ?_⟩) (by assumption) ?_
   rotate_left
   · (intro w hSw; (try dsimp only at hSw); go_simp; with_reducible rfl)
   try simp only [Act.put, List.setIfInBounds_toArray, List.set_cons_zero, List.set_cons_succ]
   refine wpAnyH_take (i := 10) (v := ?_) rfl (by kernel_rfl) (by kernel_rfl) (by kernel_rfl) (fun _ _ _ h => h) (Or.inl ⟨by rfl, ?_⟩) (by assumption) ?_
   rotate_left
   · (intro w hSw; (try dsimp only at hSw); go_simp; with_reducible rfl)
   try simp only [Act.put, List.setIfInBounds_toArray, List.set_cons_zero, List.set_cons_succ]
   clear hHeld
   revert hb0
   revert X
   apply late
   intro K18
   apply late
   intro K17
   apply late
   intro K16
   apply late
   intro K15
   apply late
   intro K14
   apply late
   intro K13
   apply late
   intro K12
   apply late
   intro K11
   apply late
   intro K10
   apply late
   intro K9
   apply late
   intro K8
   apply late
   intro K7
   apply late
   intro K6
   apply late
   intro K5
   apply late
   intro K4
   apply late
   intro K3
   apply late
   intro K2
   apply late
   intro K1
   · intro X hb0
     refine wpAnyH_ready (rs := [0, 3]) (by kernel_rfl) (by simp) ?_
     -- makeMap
     refine AllReadyH.cons rfl (fun K hK => ?_) ?_
     · go_simp
       refine hK.out _ _ (HHS5.out _ (stg_b (stg_new (s1 := s1) (s2 := s2) (s3 := s3) hb0))) (fun hHx => ?_)
       clear hHx hK K
       try simp only [Act.put, List.setIfInBounds_toArray, List.set_cons_zero, List.set_cons_succ]
       have hst1 := stg_new (s1 := s1) (s2 := s2) (s3 := s3) hb0
       clear hb0
       generalize X.heap.size = g at hst1 ⊢
       generalize X.alloc (.map #[] 0) = Y at hst1 ⊢
       clear X
       revert hst1
       revert g Y
       exact K2
     -- call 1
     refine AllReadyH.cons rfl (fun K hK => ?_) ?_
     · go_simp
       go_at_call 39
       refine (BC1 _ (R2.out.below hb0)).out.mono ?_
       rintro e Y ⟨rfl, hbY⟩
       have hb1 := hb0.trans (hbY.mono hb0.size)
       clear hbY hb0
       go_wp2_with fail
       refine hK.out _ _ (HHS5.out _ hb1) (fun hHx => ?_)
       clear hHx hK K
       try simp only [Act.put, List.setIfInBounds_toArray, List.set_cons_zero, List.set_cons_succ]
       clear X
       revert hb1
       revert Y
       exact K1
     exact AllReadyH.nil
   · intro X hb0
     refine wpAnyH_ready (rs := [0, 7]) (by kernel_rfl) (by simp) ?_
     -- makeMap
     refine AllReadyH.cons rfl (fun K hK => ?_) ?_
     · go_simp
       refine hK.out _ _ (HHS5.out _ (stg_b (stg_new (s1 := s1) (s2 := s2) (s3 := s3) hb0))) (fun hHx => ?_)
       clear hHx hK K
       try simp only [Act.put, List.setIfInBounds_toArray, List.set_cons_zero, List.set_cons_succ]
       have hst1 := stg_new (s1 := s1) (s2 := s2) (s3 := s3) hb0
       clear hb0
       generalize X.heap.size = g at hst1 ⊢
       generalize X.alloc (.map #[] 0) = Y at hst1 ⊢
       clear X
       revert hst1
       revert g Y
       exact K4
     -- call 2
     refine AllReadyH.cons rfl (fun K hK => ?_) ?_
     · go_simp
       go_at_call 39
       refine (BC2 _ (R2.out.below hb0)).out.mono ?_
       rintro e Y ⟨rfl, hbY⟩
       have hb1 := hb0.trans (hbY.mono hb0.size)
       clear hbY hb0
       go_wp2_with fail
       refine hK.out _ _ (HHS5.out _ hb1) (fun hHx => ?_)
       clear hHx hK K
       try simp only [Act.put, List.setIfInBounds_toArray, List.set_cons_zero, List.set_cons_succ]
       clear X
       revert hb1
       revert Y
       exact K3
     exact AllReadyH.nil
   · intro g X hst
     obtain ⟨u1, u2, u3⟩ := stg_ins hst (Nat.le_of_ble_eq_true rfl)
     refine wpAnyH_ready (rs := [3]) (by kernel_rfl) (by simp) ?_
     -- call 1
     refine AllReadyH.cons rfl (fun K hK => ?_) ?_
     · go_simp
       go_at_call 39
       refine (BC1 _ (R2.out.below (stg_b hst))).out.mono ?_
       rintro e Y ⟨rfl, hbY⟩
       have hst1 := stg_below hst hbY
       clear hbY hst u1 u2 u3
       go_wp2_with fail
       refine hK.out _ _ (HHS5.out _ (stg_b hst1)) (fun hHx => ?_)
       clear hHx hK K
       try simp only [Act.put, List.setIfInBounds_toArray, List.set_cons_zero, List.set_cons_succ]
       clear X
       revert hst1
       revert g Y
       exact K4
     exact AllReadyH.nil
   · intro X hb0
     refine wpAnyH_ready (rs := [0, 11]) (by kernel_rfl) (by simp) ?_
     -- makeMap
     refine AllReadyH.cons rfl (fun K hK => ?_) ?_
     · go_simp
       refine hK.out _ _ (HHS5.out _ (stg_b (stg_new (s1 := s1) (s2 := s2) (s3 := s3) hb0))) (fun hHx => ?_)
       clear hHx hK K
       try simp only [Act.put, List.setIfInBounds_toArray, List.set_cons_zero, List.set_cons_succ]
       have hst1 := stg_new (s1 := s1) (s2 := s2) (s3 := s3) hb0
       clear hb0
       generalize X.heap.size = g at hst1 ⊢
       generalize X.alloc (.map #[] 0) = Y at hst1 ⊢
       clear X
       revert hst1
       revert g Y
       exact K7
     -- call 3
     refine AllReadyH.cons rfl (fun K hK => ?_) ?_
     · go_simp
       go_at_call 39
       refine (BC3 _ (R2.out.below hb0)).out.mono ?_
       rintro e Y ⟨rfl, hbY⟩
       have hb1 := hb0.trans (hbY.mono hb0.size)
       clear hbY hb0
       go_wp2_with fail
       refine hK.out _ _ (HHS5.out _ hb1) (fun hHx => ?_)
       clear hHx hK K
       try simp only [Act.put, List.setIfInBounds_toArray, List.set_cons_zero, List.set_cons_succ]
       clear X
       revert hb1
       revert Y
       exact K5
     exact AllReadyH.nil
   · intro g X hst
     obtain ⟨u1, u2, u3⟩ := stg_ins hst (Nat.le_of_ble_eq_true rfl)
     refine wpAnyH_ready (rs := [4, 7]) (by kernel_rfl) (by simp) ?_
     -- insert 1
     refine AllReadyH.cons rfl (fun K hK => ?_) ?_
     · have hst1 := stg_put1 hst HL1.out (Nat.le_of_ble_eq_true rfl)
       go_simp
       refine hK.out _ _ (HHS5.out _ (stg_b hst1)) (fun hHx => ?_)
       clear hHx hK K
       try simp only [Act.put, List.setIfInBounds_toArray, List.set_cons_zero, List.set_cons_succ]
       clear hst u1 u2 u3
       generalize putW X g 112 s1 = Y at hst1 ⊢
       clear X
       revert hst1
       revert g Y
       exact K6
     -- call 2
     refine AllReadyH.cons rfl (fun K hK => ?_) ?_
     · go_simp
       go_at_call 39
       refine (BC2 _ (R2.out.below (stg_b hst))).out.mono ?_
       rintro e Y ⟨rfl, hbY⟩
       have hst1 := stg_below hst hbY
       clear hbY hst u1 u2 u3
       go_wp2_with fail
       refine hK.out _ _ (HHS5.out _ (stg_b hst1)) (fun hHx => ?_)
       clear hHx hK K
       try simp only [Act.put, List.setIfInBounds_toArray, List.set_cons_zero, List.set_cons_succ]
       clear X
       revert hst1
       revert g Y
       exact K7
     exact AllReadyH.nil
   · intro X hb0
     refine wpAnyH_ready (rs := [0]) (by kernel_rfl) (by simp) ?_
     -- makeMap
     refine AllReadyH.cons rfl (fun K hK => ?_) ?_
     · go_simp
       refine hK.out _ _ (HHS5.out _ (stg_b (stg_new (s1 := s1) (s2 := s2) (s3 := s3) hb0))) (fun hHx => ?_)
       clear hHx hK K
       try simp only [Act.put, List.setIfInBounds_toArray, List.set_cons_zero, List.set_cons_succ]
       have hst1 := stg_new (s1 := s1) (s2 := s2) (s3 := s3) hb0
       clear hb0
       generalize X.heap.size = g at hst1 ⊢
       generalize X.alloc (.map #[] 0) = Y at hst1 ⊢
       clear X
       revert hst1
       revert g Y
       exact K10
     exact AllReadyH.nil
   · intro g X hst
     obtain ⟨u1, u2, u3⟩ := stg_ins hst (Nat.le_of_ble_eq_true rfl)
     refine wpAnyH_ready (rs := [7]) (by kernel_rfl) (by simp) ?_
     -- call 2
     refine AllReadyH.cons rfl (fun K hK => ?_) ?_
     · go_simp
       go_at_call 39
       refine (BC2 _ (R2.out.below (stg_b hst))).out.mono ?_
       rintro e Y ⟨rfl, hbY⟩
       have hst1 := stg_below hst hbY
       clear hbY hst u1 u2 u3
       go_wp2_with fail
       refine hK.out _ _ (HHS5.out _ (stg_b hst1)) (fun hHx => ?_)
       clear hHx hK K
       try simp only [Act.put, List.setIfInBounds_toArray, List.set_cons_zero, List.set_cons_succ]
       clear X
       revert hst1
       revert g Y
       exact K8
     exact AllReadyH.nil
   · intro g X hst
     obtain ⟨u1, u2, u3⟩ := stg_ins hst (Nat.le_of_ble_eq_true rfl)
     refine wpAnyH_ready (rs := [4, 8, 11]) (by kernel_rfl) (by simp) ?_
     -- insert 1
     refine AllReadyH.cons rfl (fun K hK => ?_) ?_
     · have hst1 := stg_put1 hst HL1.out (Nat.le_of_ble_eq_true rfl)
       go_simp
       refine hK.out _ _ (HHS5.out _ (stg_b hst1)) (fun hHx => ?_)
       clear hHx hK K
       try simp only [Act.put, List.setIfInBounds_toArray, List.set_cons_zero, List.set_cons_succ]
       clear hst u1 u2 u3
       generalize putW X g 112 s1 = Y at hst1 ⊢
       clear X
       revert hst1
       revert g Y
       exact K8
     -- insert 2
     refine AllReadyH.cons rfl (fun K hK => ?_) ?_
     · have hst1 := stg_put2 hst HL2.out (Nat.le_of_ble_eq_true rfl)
       go_simp
       refine hK.out _ _ (HHS5.out _ (stg_b hst1)) (fun hHx => ?_)
       clear hHx hK K
       try simp only [Act.put, List.setIfInBounds_toArray, List.set_cons_zero, List.set_cons_succ]
       clear hst u1 u2 u3
       generalize putW X g 98 s2 = Y at hst1 ⊢
       clear X
       revert hst1
       revert g Y
       exact K9
     -- call 3
     refine AllReadyH.cons rfl (fun K hK => ?_) ?_
     · go_simp
       go_at_call 39
       refine (BC3 _ (R2.out.below (stg_b hst))).out.mono ?_
       rintro e Y ⟨rfl, hbY⟩
       have hst1 := stg_below hst hbY
       clear hbY hst u1 u2 u3
       go_wp2_with fail
       refine hK.out _ _ (HHS5.out _ (stg_b hst1)) (fun hHx => ?_)
       clear hHx hK K
       try simp only [Act.put, List.setIfInBounds_toArray, List.set_cons_zero, List.set_cons_succ]
       clear X
       revert hst1
       revert g Y
       exact K10
     exact AllReadyH.nil
   · intro g X hst
     obtain ⟨u1, u2, u3⟩ := stg_ins hst (Nat.le_of_ble_eq_true rfl)
     refine wpAnyH_ready (rs := [8, 11]) (by kernel_rfl) (by simp) ?_
     -- insert 2
     refine AllReadyH.cons rfl (fun K hK => ?_) ?_
     · have hst1 := stg_put2 hst HL2.out (Nat.le_of_ble_eq_true rfl)
       go_simp
       refine hK.out _ _ (HHS5.out _ (stg_b hst1)) (fun hHx => ?_)
       clear hHx hK K
       try simp only [Act.put, List.setIfInBounds_toArray, List.set_cons_zero, List.set_cons_succ]
       clear hst u1 u2 u3
       generalize putW X g 98 s2 = Y at hst1 ⊢
       clear X
       revert hst1
       revert g Y
       exact K11
     -- call 3
     refine AllReadyH.cons rfl (fun K hK => ?_) ?_
     · go_simp
       go_at_call 39
       refine (BC3 _ (R2.out.below (stg_b hst))).out.mono ?_
       rintro e Y ⟨rfl, hbY⟩
       have hst1 := stg_below hst hbY
       clear hbY hst u1 u2 u3
       go_wp2_with fail
       refine hK.out _ _ (HHS5.out _ (stg_b hst1)) (fun hHx => ?_)
       clear hHx hK K
       try simp only [Act.put, List.setIfInBounds_toArray, List.set_cons_zero, List.set_cons_succ]
       clear X
       revert hst1
       revert g Y
       exact K12
     exact AllReadyH.nil
   · intro g X hst
     obtain ⟨u1, u2, u3⟩ := stg_ins hst (Nat.le_of_ble_eq_true rfl)
     refine wpAnyH_ready (rs := [4, 11]) (by kernel_rfl) (by simp) ?_
     -- insert 1
     refine AllReadyH.cons rfl (fun K hK => ?_) ?_
     · have hst1 := stg_put1 hst HL1.out (Nat.le_of_ble_eq_true rfl)
       go_simp
       refine hK.out _ _ (HHS5.out _ (stg_b hst1)) (fun hHx => ?_)
       clear hHx hK K
       try simp only [Act.put, List.setIfInBounds_toArray, List.set_cons_zero, List.set_cons_succ]
       clear hst u1 u2 u3
       generalize putW X g 112 s1 = Y at hst1 ⊢
       clear X
       revert hst1
       revert g Y
       exact K11
     -- call 3
     refine AllReadyH.cons rfl (fun K hK => ?_) ?_
     · go_simp
       go_at_call 39
       refine (BC3 _ (R2.out.below (stg_b hst))).out.mono ?_
       rintro e Y ⟨rfl, hbY⟩
       have hst1 := stg_below hst hbY
       clear hbY hst u1 u2 u3
       go_wp2_with fail
       refine hK.out _ _ (HHS5.out _ (stg_b hst1)) (fun hHx => ?_)
       clear hHx hK K
       try simp only [Act.put, List.setIfInBounds_toArray, List.set_cons_zero, List.set_cons_succ]
       clear X
       revert hst1
       revert g Y
       exact K13
     exact AllReadyH.nil
   · intro g X hst
     obtain ⟨u1, u2, u3⟩ := stg_ins hst (Nat.le_of_ble_eq_true rfl)
     refine wpAnyH_ready (rs := [4, 8, 12]) (by kernel_rfl) (by simp) ?_
     -- insert 1
     refine AllReadyH.cons rfl (fun K hK => ?_) ?_
     · have hst1 := stg_put1 hst HL1.out (Nat.le_of_ble_eq_true rfl)
       go_simp
       refine hK.out _ _ (HHS5.out _ (stg_b hst1)) (fun hHx => ?_)
       clear hHx hK K
       try simp only [Act.put, List.setIfInBounds_toArray, List.set_cons_zero, List.set_cons_succ]
       clear hst u1 u2 u3
       generalize putW X g 112 s1 = Y at hst1 ⊢
       clear X
       revert hst1
       revert g Y
       exact K12
     -- insert 2
     refine AllReadyH.cons rfl (fun K hK => ?_) ?_
     · have hst1 := stg_put2 hst HL2.out (Nat.le_of_ble_eq_true rfl)
       go_simp
       refine hK.out _ _ (HHS5.out _ (stg_b hst1)) (fun hHx => ?_)
       clear hHx hK K
       try simp only [Act.put, List.setIfInBounds_toArray, List.set_cons_zero, List.set_cons_succ]
       clear hst u1 u2 u3
       generalize putW X g 98 s2 = Y at hst1 ⊢
       clear X
       revert hst1
       revert g Y
       exact K13
     -- insert 3
     refine AllReadyH.cons rfl (fun K hK => ?_) ?_
     · have hst1 := stg_put3 hst HL3.out (Nat.le_of_ble_eq_true rfl)
       go_simp
       refine hK.out _ _ (HHS5.out _ (stg_b hst1)) (fun hHx => ?_)
       clear hHx hK K
       try simp only [Act.put, List.setIfInBounds_toArray, List.set_cons_zero, List.set_cons_succ]
       clear hst u1 u2 u3
       generalize putW X g 115 s3 = Y at hst1 ⊢
       clear X
       revert hst1
       revert g Y
       exact K14
     exact AllReadyH.nil
   · intro g X hst
     obtain ⟨u1, u2, u3⟩ := stg_ins hst (Nat.le_of_ble_eq_true rfl)
     refine wpAnyH_ready (rs := [11]) (by kernel_rfl) (by simp) ?_
     -- call 3
     refine AllReadyH.cons rfl (fun K hK => ?_) ?_
     · go_simp
       go_at_call 39
       refine (BC3 _ (R2.out.below (stg_b hst))).out.mono ?_
       rintro e Y ⟨rfl, hbY⟩
       have hst1 := stg_below hst hbY
       clear hbY hst u1 u2 u3
       go_wp2_with fail
       refine hK.out _ _ (HHS5.out _ (stg_b hst1)) (fun hHx => ?_)
       clear hHx hK K
       try simp only [Act.put, List.setIfInBounds_toArray, List.set_cons_zero, List.set_cons_succ]
       clear X
       revert hst1
       revert g Y
       exact K15
     exact AllReadyH.nil
   · intro g X hst
     obtain ⟨u1, u2, u3⟩ := stg_ins hst (Nat.le_of_ble_eq_true rfl)
     refine wpAnyH_ready (rs := [8, 12]) (by kernel_rfl) (by simp) ?_
     -- insert 2
     refine AllReadyH.cons rfl (fun K hK => ?_) ?_
     · have hst1 := stg_put2 hst HL2.out (Nat.le_of_ble_eq_true rfl)
       go_simp
       refine hK.out _ _ (HHS5.out _ (stg_b hst1)) (fun hHx => ?_)
       clear hHx hK K
       try simp only [Act.put, List.setIfInBounds_toArray, List.set_cons_zero, List.set_cons_succ]
       clear hst u1 u2 u3
       generalize putW X g 98 s2 = Y at hst1 ⊢
       clear X
       revert hst1
       revert g Y
       exact K15
     -- insert 3
     refine AllReadyH.cons rfl (fun K hK => ?_) ?_
     · have hst1 := stg_put3 hst HL3.out (Nat.le_of_ble_eq_true rfl)
       go_simp
       refine hK.out _ _ (HHS5.out _ (stg_b hst1)) (fun hHx => ?_)
       clear hHx hK K
       try simp only [Act.put, List.setIfInBounds_toArray, List.set_cons_zero, List.set_cons_succ]
       clear hst u1 u2 u3
       generalize putW X g 115 s3 = Y at hst1 ⊢
       clear X
       revert hst1
       revert g Y
       exact K16
     exact AllReadyH.nil
   · intro g X hst
     obtain ⟨u1, u2, u3⟩ := stg_ins hst (Nat.le_of_ble_eq_true rfl)
     refine wpAnyH_ready (rs := [4, 12]) (by kernel_rfl) (by simp) ?_
     -- insert 1
     refine AllReadyH.cons rfl (fun K hK => ?_) ?_
     · have hst1 := stg_put1 hst HL1.out (Nat.le_of_ble_eq_true rfl)
       go_simp
       refine hK.out _ _ (HHS5.out _ (stg_b hst1)) (fun hHx => ?_)
       clear hHx hK K
       try simp only [Act.put, List.setIfInBounds_toArray, List.set_cons_zero, List.set_cons_succ]
       clear hst u1 u2 u3
       generalize putW X g 112 s1 = Y at hst1 ⊢
       clear X
       revert hst1
       revert g Y
       exact K15
     -- insert 3
     refine AllReadyH.cons rfl (fun K hK => ?_) ?_
     · have hst1 := stg_put3 hst HL3.out (Nat.le_of_ble_eq_true rfl)
       go_simp
       refine hK.out _ _ (HHS5.out _ (stg_b hst1)) (fun hHx => ?_)
       clear hHx hK K
       try simp only [Act.put, List.setIfInBounds_toArray, List.set_cons_zero, List.set_cons_succ]
       clear hst u1 u2 u3
       generalize putW X g 115 s3 = Y at hst1 ⊢
       clear X
       revert hst1
       revert g Y
       exact K17
     exact AllReadyH.nil
   · intro g X hst
     obtain ⟨u1, u2, u3⟩ := stg_ins hst (Nat.le_of_ble_eq_true rfl)
     refine wpAnyH_ready (rs := [4, 8]) (by kernel_rfl) (by simp) ?_
     -- insert 1
     refine AllReadyH.cons rfl (fun K hK => ?_) ?_
     · have hst1 := stg_put1 hst HL1.out (Nat.le_of_ble_eq_true rfl)
       go_simp
       refine hK.out _ _ (HHS5.out _ (stg_b hst1)) (fun hHx => ?_)
       clear hHx hK K
       try simp only [Act.put, List.setIfInBounds_toArray, List.set_cons_zero, List.set_cons_succ]
       clear hst u1 u2 u3
       generalize putW X g 112 s1 = Y at hst1 ⊢
       clear X
       revert hst1
       revert g Y
       exact K16
     -- insert 2
     refine AllReadyH.cons rfl (fun K hK => ?_) ?_
     · have hst1 := stg_put2 hst HL2.out (Nat.le_of_ble_eq_true rfl)
       go_simp
       refine hK.out _ _ (HHS5.out _ (stg_b hst1)) (fun hHx => ?_)
       clear hHx hK K
       try simp only [Act.put, List.setIfInBounds_toArray, List.set_cons_zero, List.set_cons_succ]
       clear hst u1 u2 u3
       generalize putW X g 98 s2 = Y at hst1 ⊢
       clear X
       revert hst1
       revert g Y
       exact K17
     exact AllReadyH.nil
   · intro g X hst
     obtain ⟨u1, u2, u3⟩ := stg_ins hst (Nat.le_of_ble_eq_true rfl)
     refine wpAnyH_ready (rs := [12]) (by kernel_rfl) (by simp) ?_
     -- insert 3
     refine AllReadyH.cons rfl (fun K hK => ?_) ?_
     · have hst1 := stg_put3 hst HL3.out (Nat.le_of_ble_eq_true rfl)
       go_simp
       refine hK.out _ _ (HHS5.out _ (stg_b hst1)) (fun hHx => ?_)
       clear hHx hK K
       try simp only [Act.put, List.setIfInBounds_toArray, List.set_cons_zero, List.set_cons_succ]
       clear hst u1 u2 u3
       generalize putW X g 115 s3 = Y at hst1 ⊢
       clear X
       revert hst1
       revert g Y
       exact K18
     exact AllReadyH.nil
   · intro g X hst
     obtain ⟨u1, u2, u3⟩ := stg_ins hst (Nat.le_of_ble_eq_true rfl)
     refine wpAnyH_ready (rs := [8]) (by kernel_rfl) (by simp) ?_
     -- insert 2
     refine AllReadyH.cons rfl (fun K hK => ?_) ?_
     · have hst1 := stg_put2 hst HL2.out (Nat.le_of_ble_eq_true rfl)
       go_simp
       refine hK.out _ _ (HHS5.out _ (stg_b hst1)) (fun hHx => ?_)
       clear hHx hK K
       try simp only [Act.put, List.setIfInBounds_toArray, List.set_cons_zero, List.set_cons_succ]
       clear hst u1 u2 u3
       generalize putW X g 98 s2 = Y at hst1 ⊢
       clear X
       revert hst1
       revert g Y
       exact K18
     exact AllReadyH.nil
   · intro g X hst
     obtain ⟨u1, u2, u3⟩ := stg_ins hst (Nat.le_of_ble_eq_true rfl)
     refine wpAnyH_ready (rs := [4]) (by kernel_rfl) (by simp) ?_
     -- insert 1
     refine AllReadyH.cons rfl (fun K hK => ?_) ?_
     · have hst1 := stg_put1 hst HL1.out (Nat.le_of_ble_eq_true rfl)
       go_simp
       refine hK.out _ _ (HHS5.out _ (stg_b hst1)) (fun hHx => ?_)
       clear hHx hK K
       try simp only [Act.put, List.setIfInBounds_toArray, List.set_cons_zero, List.set_cons_succ]
       clear hst u1 u2 u3
       generalize putW X g 112 s1 = Y at hst1 ⊢
       clear X
       revert hst1
       revert g Y
       exact K18
     exact AllReadyH.nil
   · intro g X hst
     obtain ⟨u1, u2, u3⟩ := stg_ins hst (Nat.le_of_ble_eq_true rfl)
     refine wpAnyH_ready (rs := [13]) (by kernel_rfl) (by simp) ?_
     refine AllReadyH.cons rfl (fun K hK => ?_) AllReadyH.nil
     go_simp
     refine hK.out _ _ (HHS5.out _ (stg_b hst)) (fun hHx => ?_)
     clear hHx hK K
     try simp only [Act.put, List.setIfInBounds_toArray, List.set_cons_zero, List.set_cons_succ]
     refine wpAnyH_ready (rs := [14]) (by kernel_rfl) (by simp) ?_
     refine AllReadyH.cons rfl (fun K hK => ?_) AllReadyH.nil
     go_simp
     refine hK.out _ _ (HHS5.out _ (stg_b hst)) (fun hHx => ?_)
     clear hHx hK K
     try simp only [Act.put, List.setIfInBounds_toArray, List.set_cons_zero, List.set_cons_succ]
     refine wpAnyH_done (by kernel_rfl) ?_ _
     clear u1 u2 u3
     go_wp2_with fail
     go_meet
     exact ⟨_, _, rfl, hst⟩
  case rest =>
    obtain ⟨g, nn, rfl, HST⟩ := hcut
    have HB3 := hid HST.1.2
    have hg3 := HST.1.1
    have HA1 := hid (HST.2.2.1 rfl)
    have HA2 := hid (HST.2.2.2.1 rfl)
    have HA3 := hid (HST.2.2.2.2 rfl)
    have hglt := HA1.out.map.lt
    have RD3 := hid (R2.out.below HB3.out)
    clear HST n0 n1 n2 p0 p1 hmm
    obtain ⟨n0, n1, n2, p0, p1⟩ := HHS5.out _ HB3.out
    have HRN := fun w0 => hid (rounds_any N w0 hi)
    go_wp2_with fail
    refine (HRN _).out.mono ?_
    rintro e w' ⟨rfl, rfl⟩
    go_wp2
    have HKEY : ∀ (j : Nat) (hj : j < t.length), t[j] = 112 ∨ t[j] = 98 ∨ t[j] = 115 := fun j hj => by
      have := List.all_eq_true.1 HCALL.out t[j] (List.getElem_mem hj)
      simp only [callB, Bool.or_eq_true, beq_iff_eq] at this
      rcases this with (h | h) | h
      · exact .inl h
      · exact .inr (.inl h)
      · exact .inr (.inr h)
    have HHKEY := hid HKEY
    clear HKEY n0 n1 n2 p0 p1
    go_loopg [8, 9, 29] t.length (fun gk v u x wr => ∃ j : Nat, j ≤ t.length ∧ gk = t.length - j ∧ x = .int .i64 j ∧ v = .string (bs (headTo N ch (k1, k2) t j)) ∧ wr.ownsRow wc.heap.size 9 1 u (j + 1) (strV (headsTo N ch (k1, k2) t j)) ∧ Below wc.heap.size wc wr)
    case atStart => exact ⟨0, by omega, by omega, rfl, rfl, own_of_blk (Blk.new _ _ #[.string (bs (roundsL N))]) (Nat.le_refl _) (by simp [maxLen]), (Below.refl _ _).alloc (Nat.le_refl _) _⟩
    case round =>
      obtain ⟨j, hj, rfl, rfl, rfl, ho, hb⟩ := hrel
      by_cases hlt : j < t.length
      · have hrow := headTo_row lo hi ch (k1, k2) t j
        obtain ⟨Hd, hHd⟩ : ∃ H, H = headTo N ch (k1, k2) t j := ⟨_, rfl⟩
        rw [← hHd] at hrow
        rw [← hHd]
        have hkk := HHKEY.out j hlt
        have hgd := gd_at t j hlt
        -- the look-up
        obtain ⟨S, hS, hlook⟩ : ∃ S, S = callHeadL N ch (k1, k2) [t[j]] ∧ (Instr.lookup 92 (.map (some g)) (.int .u8 (t[j].toNat : Int)) false).run Tryz.prog wr = .ok (.string (bs S)) wr := by
          rcases hkk with h | h | h
          · exact ⟨s1, by rw [h, HS1.out], by rw [h]; exact (HA1.out.below hb).look (by decide) (by decide)⟩
          · exact ⟨s2, by rw [h, HS2.out], by rw [h]; exact (HA2.out.below hb).look (by decide) (by decide)⟩
          · exact ⟨s3, by rw [h, HS3.out], by rw [h]; exact (HA3.out.below hb).look (by decide) (by decide)⟩
        have hnx := hid (show timesL Hd S = headTo N ch (k1, k2) t (j + 1) by rw [headTo, ← hHd, hgd, hS])
        have hT := hid (fun w0 => times_any Hd S w0 hrow.1 (by rw [hS]; exact callHeadL_row lo hi _ _ _) (by rw [hrow.2, hS, callHeadL_len]))
        rw [hnx.out] at hT
        have hst := hid (headsTo_step N ch (k1, k2) t j)
        have i0 : (0 : Int) ≤ (j : Int) := by omega
        have i1 : (j : Int) < (t.length : Int) := by omega
        have HO := hid ho
        have HB := hid hb
        have HBs := hb.size
        have hlim : j + 1 + 1 ≤ 1000000000000 := by omega
        have hlookB := hid hlook
        obtain ⟨Nx, hNx⟩ : ∃ X, X = headTo N ch (k1, k2) t (j + 1) := ⟨_, rfl⟩
        rw [← hNx] at hT hst
        have HNX := hid hNx
        clear ho hb hkk hgd hS hHd hNx hrow hnx
        go_wp2_with fail
        refine (hT.out _).mono ?_
        rintro e w2 ⟨rfl, b2⟩
        have HO2 := hid (own_below HO.out b2)
        have HB2' := hid (HB.out.trans (b2.mono HBs))
        have hs2 := b2.size
        clear b2 hlook
        go_wp2_with (at_builtin; refine app_str _ (by rfl) _ _ (by rfl) wc.heap.size _ _ _ (by rfl) (HO2.out.alloc _) (some ⟨w2.heap.size, 0, none⟩) 1 1 [Nx] (by rfl) (Rd.blk _ [.string (bs Nx)] _) hlim (by simp; omega) ?_; intro v5 w5 o5 g5)
        go_roundg (t.length - (j + 1))
        case measure => omega
        case rel =>
          rw [hst.out] at o5
          exact ⟨j + 1, by omega, rfl, by go_num, by rw [HNX.out], o5, (HB2'.out.alloc (by omega) _).grown g5 (by simp; omega) fun q hq => (HO2.out.lt q hq).1⟩
      · obtain rfl : j = t.length := by omega
        have hcw := HB3.out.size
        go_wp2
        go_ret
        exact ⟨_, rfl, own_mono ho (Nat.le_trans hw2 hcw), HB2.out.trans ((HB3.out.trans (hb.mono hcw)).mono hw2)⟩
end Go.Proofs.YtihaopijnkiafaaGreatDoor
