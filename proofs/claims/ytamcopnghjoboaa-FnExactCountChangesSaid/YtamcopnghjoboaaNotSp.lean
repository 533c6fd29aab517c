/- Contract of ReadNotation, in the reference. No conditions beyond those stated. -/
import Derived.Test.YtamcopnghjoboaaNotL
import Derived.Test.YtamcopnghjoboaaNotB
set_option linter.unusedVariables false
set_option linter.unusedSimpArgs false
set_option maxRecDepth 100000
namespace Go.Proofs.Ytamcopnghjoboaa
open Go.RowKit

def catB (m : Bool) (B : List (List (List UInt8))) : List (List UInt8) := (B.map (fun l => if m = true then mirL l else l)).flatten
theorem catB_step (m : Bool) (B : List (List (List UInt8))) (j : Nat) (h : j < B.length) : catB m (B.take (j + 1)) = catB m (B.take j) ++ (if m = true then mirL B[j] else B[j]) := by
  unfold catB
  rw [List.take_succ_eq_append_getElem h, List.map_append, List.flatten_append]
  simp only [List.map_cons, List.map_nil, List.flatten_cons, List.flatten_nil, List.append_nil]
theorem catB_room (m : Bool) (B : List (List (List UInt8))) (hB : ∀ l ∈ B, l.length ≤ 1000) : (catB m B).length ≤ 2000 * B.length := by
  induction B with
  | nil => simp [catB]
  | cons l B ih =>
    have h1 := hB l (by simp)
    have h2 := ih (fun x hx => hB x (by simp [hx]))
    simp only [catB, List.map_cons, List.flatten_cons, List.length_append, List.length_cons] at h2 ⊢
    have h3 : (if m = true then mirL l else l).length ≤ 2000 := by
      split
      · simp [mirL]; omega
      · omega
    omega
theorem catB_out (B : List (List (List UInt8))) : outL B = catB (decide (1 < B.length)) B := by
  unfold outL catB
  by_cases h : 1 < B.length
  · rw [if_pos h, decide_eq_true h]; simp [mirs]
  · rw [if_neg h, decide_eq_false h]; simp
theorem WrdB.shape {w : World} {G N : Nat} {s : List UInt8} {a : Nat} {v : Value} {b : Int} (h : WrdB w G N s a v b) : w.cell? ⟨G, 3, none⟩ = some v := h.cell 3
set_option maxHeartbeats 16000000 in
theorem specRead_any (n : Int) (s : List UInt8) (w : World) (hs : s.length ≤ 1048576) :
    Calls Try.prog 7 #[.int .i64 n, .string (bs s)] w (ResN w (readR n s)) := by
  by_cases hst : 3 ≤ n ∧ n ≤ 8
  · obtain ⟨N, rfl⟩ : ∃ N : Nat, n = N := ⟨n.toNat, by omega⟩
    have lo : 3 ≤ N := by omega
    have hi : N ≤ 8 := by omega
    have hb : (decide (3 ≤ (N : Int)) && decide ((N : Int) ≤ 8)) = true := by simp; omega
    have GS := hid (fun (w0 : World) => l1In_any (N : Int) 3 8 w0)
    rw [hb] at GS
    by_cases hlen : s = [] ∨ 200 < s.length
    · have HR := hid (show readR (N : Int) s = ([], 1, 0, false) by unfold readR; rw [if_neg (by omega), if_pos hlen])
      clear hst hb
      go_enter Try.func7, Try.ntmps7
      by_cases hn : s = []
      · have hpb : (s == []) = true := by simpa using hn
        clear hn hlen
        go_wp2_with fail
        refine (GS.out _).mono ?_
        rintro e w1 ⟨rfl, rfl⟩
        go_wp2
        refine bodyPost_ret (v := .tuple #[.slice none 0 0, .int .i64 1, .int .i64 0, .bool false]) (by simp [results, Try.results7, go_sem]) rfl ?_
        exact ResN.no HR.out (Below.refl _ _)
      · have hpb : (s == []) = false := by simpa using hn
        have hgt : (200 : Int) < (s.length : Int) := by rcases hlen with h | h; exact absurd h hn; omega
        have hgt2 : 200 < s.length := by omega
        have hd1 : decide ((200 : Int) < (s.length : Int)) = true := decide_eq_true hgt
        clear hn hlen
        go_wp2_with fail
        refine (GS.out _).mono ?_
        rintro e w1 ⟨rfl, rfl⟩
        go_wp2
        refine bodyPost_ret (v := .tuple #[.slice none 0 0, .int .i64 1, .int .i64 0, .bool false]) (by simp [results, Try.results7, go_sem]) rfl ?_
        exact ResN.no HR.out (Below.refl _ _)
    · have HB := hid (fun (p : Nat) (B : List (List (List UInt8))) (h : blocksL N s (s.length + 1) 0 = (B, some p)) => read_bad lo hi hlen h)
      have HGD := hid (fun (B : List (List (List UInt8))) (h : blocksL N s (s.length + 1) 0 = (B, none)) => (read_good lo hi hlen h))
      have hpb : (s == []) = false := by simpa using fun h => hlen (Or.inl h)
      have hle : (s.length : Int) ≤ 200 := by omega
      have hle2 : s.length ≤ 200 := by omega
      have hd1 : decide ((200 : Int) < (s.length : Int)) = false := decide_eq_false (by omega)
      have hs1 : s.length ≤ 1000 := by omega
      generalize readR (N : Int) s = RR at *
      clear hst hb hlen
      go_enter Try.func7, Try.ntmps7
      go_wp2_with fail
      refine (GS.out _).mono ?_
      rintro e w1 ⟨rfl, rfl⟩
      go_wp2_with fail
      obtain ⟨W0, hW0⟩ : ∃ W0, W0 = w.alloc (.cells #[.int .i64 (N : Int), .string (bs s), .int .i64 0, .slice none 0 0, .int .i64 (-1)] 33) := ⟨_, rfl⟩
      have N0 : WrdB W0 w.heap.size N s 0 (.slice none 0 0) (-1) := by rw [hW0]; exact Blk.new w 33 _
      have B0 : Below w.heap.size w W0 := by rw [hW0]; exact (Below.refl _ _).alloc (Nat.le_refl _) _
      have hs0 : W0.heap.size = w.heap.size + 1 := by rw [hW0]; simp
      rw [← hW0]
      have HB0 := hid B0
      have HS0 := hid hs0
      have HN0 := hid N0
      obtain ⟨RB, hRB⟩ : ∃ RB, blocksL N s (s.length + 1) 0 = RB := ⟨_, rfl⟩
      rw [hRB] at HB HGD
      have HRB := hid hRB
      clear hRB hW0 N0 B0 hs0
      go_loopg [9] (s.length + 1) (fun gk u wr => ∃ (x : Nat) (acc : List (List (List UInt8))) (vv : Value), x ≤ s.length ∧ s.length + 1 - x ≤ gk ∧ acc.length + gk ≤ s.length + 1 ∧ Hid (∀ l ∈ acc, 1 ≤ l.length ∧ l.length ≤ 1000) ∧ Hid (RB = (acc ++ (blocksL N s gk x).1, (blocksL N s gk x).2)) ∧ OwnOS wr (w.heap.size + 1) u acc ∧ WrdB wr w.heap.size N s x vv (-1) ∧ W0.grownBy wr (some w.heap.size))
      case atStart => exact ⟨0, [], .slice none 0 0, by omega, by omega, by simp, hid (by simp), hid (by rw [← HRB.out]; simp), OwnOS.nil _ _, HN0.out, grown_refl _ _⟩
      case round =>
        obtain ⟨x, acc, vv, hx, hgk, hacc, hal, hr, ho, hn, hg⟩ := hrel
        obtain ⟨f, rfl⟩ : ∃ f, gk = f + 1 := ⟨gk - 1, by omega⟩
        obtain ⟨A0, c0, vs, rfl, hc0, own, hvl, hel⟩ := ho.shape
        have HN2 := hid (WrdB.out_ hn (.slice none 0 0))
        have q3 := Blk.cell hn 3
        have r3 := Blk.frozen hn 3
        simp only [List.getElem?_toArray, List.getElem?_cons_zero, List.getElem?_cons_succ] at q3
        have HG := hid (grown_set (o := 3) (v := .slice none 0 0) hg)
        have HOWN := hid (own_setG (p := ⟨w.heap.size, 3, none⟩) (u := .slice none 0 0) own (Nat.lt_succ_self _))
        have HEL := hid (fun (i : Nat) (h1 : i < vs.length) (h2 : i < acc.length) => (show (wr.setCell ⟨w.heap.size, 3, none⟩ (.slice none 0 0)).ownsRow (w.heap.size + 1) 9 1 vs[i] acc[i].length (strV acc[i]) ∧ ∀ k, vs[i].ownBlock = some k → (Value.slice A0 acc.length c0).ownBlock = some k → False from ⟨own_setG (p := ⟨w.heap.size, 3, none⟩) (u := .slice none 0 0) (hel i h1 h2).1 (Nat.lt_succ_self _), (hel i h1 h2).2⟩))
        have HVL := hid hvl
        have HX := hid hx
        have HK := hid hgk
        have HA := hid hacc
        have HLE := hid (block_le (N := N) (s := s) (s.length + 1) x hx (by omega))
        have hlim : acc.length + 1 ≤ 1000000000 := by omega
        clear hx hgk hacc ho hn hg own hel hvl hc0
        obtain ⟨W2, hW2⟩ : ∃ W2, W2 = wr.setCell ⟨w.heap.size, 3, none⟩ (.slice none 0 0) := ⟨_, rfl⟩
        rw [← hW2] at HN2 HG HOWN HEL
        have HBk := hid (specBlock_any w.heap.size N s x W2 lo hi HN2.out HX.out hs1)
        have HW2 := hid hW2
        clear hW2
        go_wp2_with fail
        rw [← HW2.out]
        refine HBk.out.mono ?_
        rintro e0 w1 ⟨rfl, v1, g1, hnone, hsome⟩
        clear q3 r3 HW2
        have HO1 := hid (own_other HOWN.out g1 (fun k hk e => by have h3 := (HOWN.out.lt k hk).1; injection e with e; omega))
        have HE1 := hid (fun (i : Nat) (h1 : i < vs.length) (h2 : i < acc.length) => (show w1.ownsRow (w.heap.size + 1) 9 1 vs[i] acc[i].length (strV acc[i]) ∧ ∀ k, vs[i].ownBlock = some k → (Value.slice A0 acc.length c0).ownBlock = some k → False from ⟨own_other (HEL.out i h1 h2).1 g1 (fun k hk e => by have h3 := ((HEL.out i h1 h2).1.lt k hk).1; injection e with e; omega), (HEL.out i h1 h2).2⟩))
        have hw1s : w.heap.size + 1 ≤ w1.heap.size := by have h1 := HS0.out; have h2 := HG.out.size; have h3 := g1.size; omega
        have HG1 := hid (grown_one HG.out g1)
        have hne5 := hid (show (Value.slice A0 acc.length c0).ownBlock ≠ some w.heap.size from fun e => by have h1 := (HOWN.out.lt _ e).1; omega)
        have HUB := hid (fun q (hq : (Value.slice A0 acc.length c0).ownBlock = some q) => (show W0.heap.size ≤ q from by have h1 := (HOWN.out.lt q hq).1; have h2 := HS0.out; omega))
        have HWR := hid (show w.heap.size + 1 ≤ W2.heap.size from by have h1 := HS0.out; have h2 := HG.out.size; omega)
        clear g1
        cases h22 : (blockL N s (s.length + 1) x).2.2
        · obtain ⟨hN1, o1⟩ := hnone h22
          obtain ⟨A1, c1, rfl, _⟩ := own_shape o1
          obtain ⟨l1, l2, l3, l4⟩ := HLE.out h22
          obtain ⟨LB, hLB⟩ : ∃ LB, (blockL N s (s.length + 1) x).1 = LB := ⟨_, rfl⟩
          obtain ⟨E, hE⟩ : ∃ E, (blockL N s (s.length + 1) x).2.1 = E := ⟨_, rfl⟩
          have HEND := hid (fun (h : E = s.length) => (show RB = (acc ++ [LB], none) by rw [hr.out, blocks_end h22 (by rw [hE]; exact h), hLB]))
          have HON := hid (fun (h : E ≠ s.length) => (show RB = ((acc ++ [LB]) ++ (blocksL N s f (E + 1)).1, (blocksL N s f (E + 1)).2) by rw [hr.out, blocks_on h22 (by rw [hE]; exact h), hLB, hE]; simp))
          rw [hLB] at l3 l4 o1 hN1
          rw [hE] at hN1 l1 l2 l4
          have HN1 := hid hN1
          have HBL := hid (fun k (h1 : (Value.slice A1 LB.length c1).ownBlock = some k) (h2 : (Value.slice A0 acc.length c0).ownBlock = some k) => (show False from by have h3 := (o1.lt k h1).1; have h4 := (HOWN.out.lt k h2).2; omega))
          have HO := hid o1
          have hone : ∀ u ∈ [Value.slice A1 LB.length c1], u.oneCell' = true := fun u hu => by rw [List.mem_singleton.1 hu]; rfl
          have HLS := hid (show ∀ l ∈ acc ++ [LB], 1 ≤ l.length ∧ l.length ≤ 1000 from fun l hl => by
            rw [List.mem_append] at hl
            rcases hl with h | h
            · exact hal.out l h
            · rw [List.mem_singleton.1 h]; exact ⟨l3, by omega⟩)
          have hx2 := hid l2
          have hlen1 := hid (show (acc ++ [LB]).length = acc.length + 1 by simp)
          obtain ⟨n0, n1, n2, n4⟩ := hN1.cells4
          have n3 := WrdB.shape hN1
          clear hnone hsome h22 hLB hE hr hN1 l2 l4 hal o1
          by_cases hend : E = s.length
          · have HR0 := hid (HGD.out _ (HEND.out hend))
            have hee : ((E : Int) == (s.length : Int)) = true := by simp; omega
            have heeN : (E == s.length) = true := by simp; exact hend
            clear HON HEND hend
            obtain ⟨BB, hBB⟩ : ∃ BB, acc ++ [LB] = BB := ⟨_, rfl⟩
            obtain ⟨nb, hnb⟩ : ∃ nb, nb = acc.length + 1 := ⟨_, rfl⟩
            have hnbI : (acc.length : Int) + 1 = (nb : Int) := by omega
            have HBB := hid hBB
            have HLN := hlen1
            obtain ⟨mm, hmm⟩ : ∃ mm, decide (1 < nb) = mm := ⟨_, rfl⟩
            rw [hBB] at HLS HLN HR0
            rw [← hnb] at HLN
            rw [catB_out, HLN.out, hmm] at HR0
            have hmmI : decide ((1 : Int) < (nb : Int)) = mm := by rw [← hmm]; exact decide_eq_decide.2 (by omega)
            have MR := hid (catB_room mm BB (fun l hl => (HLS.out l hl).2))
            have nb0 : 1 ≤ nb := by omega
            have nb1 : nb ≤ 1001 := by have h1 := HA.out; omega
            clear hlen1 hnb hBB
            go_wp2_with (at_builtin; refine app_ss _ (by rfl) _ _ (by rfl) (w.heap.size + 1) _ _ _ (by rfl) (HO1.out.alloc _) (some ⟨w1.heap.size, 0, none⟩) 1 1 [.slice A1 LB.length c1] (by rfl) (Rd.blk _ [.slice A1 LB.length c1] _) hone hlim (by simp; omega) ?_; intro v5 w5 o5 g5 f5; have B5 : w1.grownBy w5 (Value.slice A0 acc.length c0).ownBlock := grown_below ((Below.refl _ _).alloc (Nat.le_refl _) _) g5; have HN5 := hid (show WrdB w5 w.heap.size N s E (.slice A1 LB.length c1) (-1) from blk_grown3 B5 HN1.out hne5.out); obtain ⟨m0, m1, m2, m3⟩ := WrdB.cells4 HN5.out; have HOS5 := hid (show OwnOS w5 (w.heap.size + 1) v5 (acc ++ [LB]) from OwnOS.app1 (l := LB) HVL.out (fun i h1 h2 => ⟨(HE1.out i h1 h2).1.alloc _, (HE1.out i h1 h2).2⟩) ((own_mono HO.out HWR.out).alloc _) HBL.out o5 g5 f5); rw [HBB.out] at HOS5; obtain ⟨b5, o5', c5, rfl, hc5⟩ := HOS5.out.head (by rw [HLN.out]; exact nb0); rw [HLN.out] at HOS5 hc5 ⊢)
            have hw5 : w.heap.size + 1 ≤ w5.heap.size := Nat.le_trans hw1s B5.size
            have HB5 := hid (HB0.out.trans (below_of_one (grown_new HG1.out B5 HUB.out) (Nat.le_refl _) HB0.out.size))
            have hws := hid (show w.heap.size ≤ w5.heap.size by omega)
            clear HN5 m0 m1 m3 n0 n1 n2 n3 n4
            go_loopg [10, 64] nb (fun gk u v wr' => ∃ j : Nat, j ≤ nb ∧ gk = nb - j ∧ v = .int .i64 j ∧ wr'.ownsRow w5.heap.size 9 1 u (catB mm (BB.take j)).length (strV (catB mm (BB.take j))) ∧ Below w5.heap.size w5 wr')
            case atStart => exact ⟨0, by omega, by omega, rfl, by
              simp only [List.take_zero, catB, List.map_nil, List.flatten_nil, List.length_nil]
              exact World.ownsRow_nil _ _ _ _, Below.refl _ _⟩
            case round =>
              obtain ⟨j, hj, rfl, rfl, ho, hb⟩ := hrel
              by_cases hlt : j < nb
              · have hjB : j < BB.length := by rw [HLN.out]; exact hlt
                have hbs := hb.size
                obtain ⟨A7, c7, k7, hc7, rd7, hz7⟩ := (HOS5.out.below hb).cell j hjB
                have hst := hid (catB_step mm BB j hjB)
                have hmem := HLS.out _ (List.getElem_mem hjB)
                have HLR := hid (show (catB mm (BB.take j)).length ≤ 2000 * 1001 from Nat.le_trans (catB_room mm (BB.take j) (fun l hl => (HLS.out l (List.mem_of_mem_take hl)).2)) (Nat.mul_le_mul_left _ (by rw [List.length_take]; omega)))
                obtain ⟨X, hX⟩ : ∃ X, BB[j] = X := ⟨_, rfl⟩
                rw [hX] at k7 rd7 hst hmem
                have HM := hid (l3Mirror_any A7 X.length c7 X wr rd7 hmem.1 hmem.2)
                have hxm := hid (mirL_len X hmem.1)
                have hx2 := hmem.2
                have j0 : (0 : Int) ≤ (j : Int) := by omega
                have j1 : (j : Int) < (nb : Int) := by omega
                have HOW := hid ho
                have HBE := hid hb
                have RD7 := hid rd7
                clear ho hb hX hc7 hz7 rd7 hmem hjB
                have hmm2 := hid hmm
                clear hmm
                cases mm
                · have hst2 := hid (show catB false (BB.take (j + 1)) = catB false (BB.take j) ++ X from by rw [hst.out, if_neg (by simp)])
                  have hl8 : (catB false (BB.take j)).length + X.length ≤ 1000000000000 := by have := HLR.out; omega
                  go_wp2_with (at_builtin; refine app_str _ (by rfl) _ _ (by rfl) w5.heap.size _ _ _ (by rfl) HOW.out A7 X.length c7 X (by rfl) RD7.out hl8 hbs ?_; intro v9 w9 o9 g9)
                  go_roundg (nb - (j + 1))
                  case measure => omega
                  case rel =>
                    refine ⟨j + 1, by omega, rfl, by go_num, ?_, HBE.out.grown g9 hbs (fun q hq => (HOW.out.lt q hq).1)⟩
                    rw [hst2.out, List.length_append]
                    exact o9
                · have hst2 := hid (show catB true (BB.take (j + 1)) = catB true (BB.take j) ++ mirL X from by rw [hst.out, if_pos rfl])
                  go_wp2_with fail
                  refine HM.out.mono ?_
                  rintro e8 w8 ⟨v8, rfl, o8, b8⟩
                  obtain ⟨A8, c8, rfl, _, _, rd8, _⟩ := own_shape o8
                  have HO8 := hid (own_below HOW.out b8)
                  have HB8 := hid (HBE.out.trans (b8.mono HBE.out.size))
                  have RD8 := hid rd8
                  have h8s : w5.heap.size ≤ w8.heap.size := HB8.out.size
                  have hl8 : (catB true (BB.take j)).length + (X.length + (X.length - 1)) ≤ 1000000000000 := by have := HLR.out; omega
                  clear o8 b8 rd8 k7
                  go_wp2_with (at_builtin; refine app_str _ (by rfl) _ _ (by rfl) w5.heap.size _ _ _ (by rfl) HO8.out A8 (X.length + (X.length - 1)) c8 (mirL X) (by rfl) RD8.out hl8 h8s ?_; intro v9 w9 o9 g9)
                  go_roundg (nb - (j + 1))
                  case measure => omega
                  case rel =>
                    refine ⟨j + 1, by omega, rfl, by go_num, ?_, HB8.out.grown g9 h8s (fun q hq => (HO8.out.lt q hq).1)⟩
                    rw [hst2.out, List.length_append, hxm.out]
                    exact o9
              · obtain rfl : j = nb := by omega
                rw [List.take_of_length_le (by rw [HLN.out]; exact Nat.le_refl _)] at ho
                have HOW := hid ho
                obtain ⟨A9, c9, rfl, _⟩ := own_shape ho
                have hml := MR.out
                rw [HLN.out] at hml
                have HR9 := hid (HB5.out.trans (hb.mono hws.out))
                clear ho hb hmm hmmI
                generalize catB mm BB = LL at *
                by_cases h4 : 4 < j
                · have HR := hid (HR0.out.trans (if_pos (Or.inl h4)))
                  have d4 : decide ((4 : Int) < (j : Int)) = true := decide_eq_true (by omega)
                  have d4i : (4 : Int) < (j : Int) := by omega
                  go_wp2
                  refine bodyPost_ret (v := .tuple #[.slice none 0 0, .int .i64 3, .int .i64 0, .bool false]) (by simp [results, Try.results7, go_sem]) rfl ?_
                  exact ResN.no HR.out HR9.out
                · have d4 : decide ((4 : Int) < (j : Int)) = false := decide_eq_false (by omega)
                  have d4i : ¬ (4 : Int) < (j : Int) := by omega
                  by_cases h40 : 40 < LL.length
                  · have HR := hid (HR0.out.trans (if_pos (Or.inr h40)))
                    have d40 : decide ((40 : Int) < (LL.length : Int)) = true := decide_eq_true (by omega)
                    have d40i : (40 : Int) < (LL.length : Int) := by omega
                    go_wp2
                    refine bodyPost_ret (v := .tuple #[.slice none 0 0, .int .i64 3, .int .i64 0, .bool false]) (by simp [results, Try.results7, go_sem]) rfl ?_
                    exact ResN.no HR.out HR9.out
                  · have HR := hid (HR0.out.trans (if_neg (fun h => by rcases h with h | h; exact h4 h; exact h40 h)))
                    have d40 : decide ((40 : Int) < (LL.length : Int)) = false := decide_eq_false (by omega)
                    have d40i : ¬ (40 : Int) < (LL.length : Int) := by omega
                    go_wp2
                    refine bodyPost_ret (v := .tuple #[.slice A9 LL.length c9, .int .i64 0, .int .i64 0, .bool true]) (by simp [results, Try.results7, go_sem]) rfl ?_
                    exact ResN.yes HR.out (own_mono HOW.out hws.out) HR9.out
          · have HRX := hid (HON.out hend)
            have hee : ((E : Int) == (s.length : Int)) = false := by simp; omega
            have heeN : (E == s.length) = false := by simp; exact hend
            have hwx := IntWalk.i64_in ((E : Int) + 1) (by omega)
            clear HON HEND
            go_wp2_with (at_builtin; refine app_ss _ (by rfl) _ _ (by rfl) (w.heap.size + 1) _ _ _ (by rfl) (HO1.out.alloc _) (some ⟨w1.heap.size, 0, none⟩) 1 1 [.slice A1 LB.length c1] (by rfl) (Rd.blk _ [.slice A1 LB.length c1] _) hone hlim (by simp; omega) ?_; intro v5 w5 o5 g5 f5; have B5 : w1.grownBy w5 (Value.slice A0 acc.length c0).ownBlock := grown_below ((Below.refl _ _).alloc (Nat.le_refl _) _) g5; have HN5 := hid (show WrdB w5 w.heap.size N s E (.slice A1 LB.length c1) (-1) from blk_grown3 B5 HN1.out hne5.out); obtain ⟨m0, m1, m2, m3⟩ := WrdB.cells4 HN5.out; have HOS5 := hid (show OwnOS w5 (w.heap.size + 1) v5 (acc ++ [LB]) from OwnOS.app1 (l := LB) HVL.out (fun i h1 h2 => ⟨(HE1.out i h1 h2).1.alloc _, (HE1.out i h1 h2).2⟩) ((own_mono HO.out HWR.out).alloc _) HBL.out o5 g5 f5); have f52 := Blk.frozen HN5.out 2)
            go_roundg f
            case measure => omega
            case rel => exact ⟨E + 1, acc ++ [LB], .slice A1 LB.length c1, by omega, by have h1 := HK.out; have h2 := hx2.out; omega, by have h1 := HA.out; have h2 := HK.out; have h3 := HX.out; rw [hlen1.out]; omega, HLS, HRX, HOS5.out.one (grown_set (o := 2) (v := .int .i64 ((E : Int) + 1)) (grown_refl _ _)) (Nat.lt_succ_self _), by have h := WrdB.at_ HN5.out (E + 1); simpa using h, by have h := grown_set (o := 2) (v := .int .i64 ((E : Int) + 1)) (grown_new HG1.out B5 HUB.out); exact h⟩
        · rename_i p
          obtain ⟨E, hN1⟩ := hsome p h22
          have HN1 := hid hN1
          have HR := hid (HB.out p (acc ++ []) (by rw [hr.out, blocks_bad h22]))
          have k0 : (0 : Int) ≤ (p : Int) := by omega
          obtain ⟨n0, n1, n2, n4⟩ := hN1.cells4
          clear hnone hsome h22 hr hN1
          go_wp2_with fail
          go_region_held3 (fun w' => w'.cell? ⟨w.heap.size, 0, none⟩ = some (.int .i64 (N : Int)) ∧ w'.cell? ⟨w.heap.size, 1, none⟩ = some (.string (bs s)) ∧ w'.cell? ⟨w.heap.size, 2, none⟩ = some (.int .i64 (E : Int)) ∧ w'.cell? ⟨w.heap.size, 4, none⟩ = some (.int .i64 (p : Int)))
            (first | exact HN1.out.cells4 | exact (HN1.out.drewN 1).cells4)
            (fail)
          go_wp2
          refine bodyPost_ret (v := .tuple #[.slice none 0 0, .int .i64 2, .int .i64 (p : Int), .bool false]) (by simp [results, Try.results7, go_sem]) rfl ?_
          exact ResN.no HR.out (HB0.out.trans (below_drewN (below_of_one HG1.out (Nat.le_refl _) HB0.out.size) 1))
  · have HR := hid (show readR n s = ([], 0, 0, false) by unfold readR; rw [if_pos hst])
    have hb : (decide (3 ≤ n) && decide (n ≤ 8)) = false := by rw [Bool.eq_false_iff]; simp; omega
    have GS := hid (fun (w0 : World) => l1In_any n 3 8 w0)
    rw [hb] at GS
    clear hst hb
    go_enter Try.func7, Try.ntmps7
    go_wp2_with fail
    refine (GS.out _).mono ?_
    rintro e w1 ⟨rfl, rfl⟩
    go_wp2
    refine bodyPost_ret (v := .tuple #[.slice none 0 0, .int .i64 0, .int .i64 0, .bool false]) (by simp [results, Try.results7, go_sem]) rfl ?_
    exact ResN.no HR.out (Below.refl _ _)
end Go.Proofs.Ytamcopnghjoboaa
