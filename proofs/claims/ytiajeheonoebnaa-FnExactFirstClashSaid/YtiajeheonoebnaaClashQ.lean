/- Contracts of clashes, in the program and in the reference: the pairs themselves. No conditions beyond those stated. -/
import Derived.Test.YtiajeheonoebnaaExpF
import Derived.Test.YtiajeheonoebnaaClashP
import Derived.Test.YtiajeheonoebnaaTurnR
import Derived.Test.YtiajeheonoebnaaSHeads
import Derived.Test.YtiajeheonoebnaaPairs
set_option linter.unusedVariables false
set_option linter.unusedSimpArgs false
set_option maxRecDepth 100000
namespace Go.Proofs.Ytiajeheonoebnaa
open Go.RowKit

/-- A slice of pairs comes back; it and the pairs are the call's own. -/
def PairsR (w : World) (ps : List (Nat × Nat)) (e : Ending) (w' : World) : Prop := ∃ v, e = .returned v ∧ PairsO w' w.heap.size v ps ∧ Below w.heap.size w w'
set_option maxHeartbeats 2000000 in
theorem clashesP_any (N : Nat) (nm : List UInt8) (ca hs : List (List UInt8)) (A B : Option Addr) (n c m d : Nat) (w : World) (lo : 3 ≤ N) (hi : N ≤ 8) (hra : Rd w A n (strV ca)) (hrb : Rd w B m (strV hs)) (hn : n ≤ 1000) (hm : m ≤ 1000) (hsa : ∀ x ∈ ca, okChange (N : Int) x = true) (hh : ∀ x ∈ hs, IsRow x ∧ x.length = N) :
    Calls Try.prog 71 #[.agg #[.string (bs nm), .int .i64 N, .slice A n c], .slice B m d] w (PairsR w (clashTo (quotL (leadL (roundsL N) ca) (leadL (roundsL N) ca)) hs m)) := by
  have HF := fun (w0 : World) (rd : Rd w0 A n (strV ca)) => hid (falseSet_any N nm nm ca ca A A n c n c w0 lo hi rd rd hn hn hsa hsa)
  have hl := hid (show hs.length = m by have := hrb.1; rw [strV_len] at this; exact this)
  have HH := hid hh
  have RA := hid hra
  have RB := hid hrb
  clear hra hrb hsa hh
  generalize quotL (leadL (roundsL N) ca) (leadL (roundsL N) ca) = F at *
  go_enter Try.func71, Try.ntmps71
  go_wp2_with fail
  obtain ⟨B2, hsz, HC⟩ := box_mk1 28 w nm (N : Int) (.slice A n c)
  have R2 := hid (RA.out.below B2)
  have RB2 := hid (RB.out.below B2)
  have HB2 := hid B2
  have hw2 := B2.size
  generalize (w.alloc (.cells #[.string (bs nm), .int .i64 (N : Int), .slice A n c] 28)) = W2 at *
  clear hsz HC B2
  refine (HF _ R2.out).out.mono ?_
  rintro e w1 ⟨g, q, rfl, hq, hS, hg, b1⟩
  have HB1 := hid b1
  have HS := hid hS
  have RB1 := hid (RB2.out.below b1)
  have hgl := hS.lt
  have hw1 := b1.size
  clear b1 hS
  go_wp2_with fail
  have HKM := hid (show ∀ k, k ≤ m → k * m ≤ 1000000 from fun k hk => Nat.le_trans (Nat.mul_le_mul (Nat.le_trans hk hm) hm) (by omega))
  go_loopg [6, 16] m (fun gk u v wr => ∃ i : Nat, i ≤ m ∧ gk = m - i ∧ v = .int .i64 i ∧ PairsO wr w1.heap.size u (clashTo F hs i) ∧ Below w1.heap.size w1 wr)
  case atStart => exact ⟨0, by omega, by omega, rfl, PairsO.nil (own_of_blk (Blk.new _ _ #[]) (Nat.le_refl _) (by simp [maxLen])), (Below.refl _ _).alloc (Nat.le_refl _) _⟩
  case round =>
    obtain ⟨i, hi', rfl, rfl, ho, hb⟩ := hrel
    by_cases hlt : i < m
    · obtain ⟨b', o', hB, hj', hc⟩ := (RB1.out.below hb).str hlt
      have rowi := hid (HH.out _ (List.getElem_mem hj'))
      have hk0 : (0 : Int) ≤ (i : Int) := by omega
      have hk1 : (i : Int) < (m : Int) := by omega
      subst hB
      have HST := hid (clashTo_step F hs i)
      have HO := hid ho
      have HB := hid hb
      have hbs := hb.size
      obtain ⟨w2, hw2'⟩ : ∃ w2, w2 = wr := ⟨_, rfl⟩
      subst hw2'
      clear ho hb
      go_wp2_with fail
      have HT := hid (fun w0 => turned_any hs[i] w0 rowi.out.1)
      have hkm := HKM.out i hi'
      have hcl := clashTo_len F hs i
      rw [hl.out] at hcl
      go_loopg [6, 9] (m - (i + 1)) (fun gk u v wr => ∃ k : Nat, i < k ∧ k ≤ m ∧ gk = m - k ∧ v = .int .i64 k ∧ PairsO wr w1.heap.size u (clashTo F hs i ++ clashRow F hs i k) ∧ Below w1.heap.size w1 wr)
      case atStart => exact ⟨i + 1, by omega, by omega, rfl, by go_num, by rw [clashRow_zero, List.append_nil]; exact HO.out, HB.out⟩
      case round =>
        obtain ⟨k, hik, hk', rfl, rfl, ho, hb⟩ := hrel
        by_cases hltk : k < m
        · obtain ⟨b3, o3, hB3, hjk, hck⟩ := (RB1.out.below hb).str hltk
          injection hB3 with hB3
          injection hB3 with f1 f2 _
          subst f1 f2
          have rowk := hid (HH.out _ (List.getElem_mem hjk))
          have hkk0 : (0 : Int) ≤ (k : Int) := by omega
          have hkk1 : (k : Int) < (m : Int) := by omega
          have HTM := hid (fun w0 => times_any (turnL hs[i]) hs[k] w0 (turn_row rowi.out.1) rowk.out.1 (by rw [turn_len, rowi.out.2, rowk.out.2]))
          have hcA : memB (timesL (turnL hs[i]) hs[k]) F = clashAt F hs i k := by unfold clashAt; simp [List.getD, hj', hjk]
          obtain ⟨Z, hZ⟩ : ∃ Z, Z = timesL (turnL hs[i]) hs[k] := ⟨_, rfl⟩
          have hzl : Z.length ≤ 1048576 := by rw [hZ, times_len, rowk.out.2]; omega
          rw [← hZ] at HTM hcA
          have HCA := hid hcA
          have HO2 := hid ho
          have HB2' := hid hb
          have hbs2 := hb.size
          have hrl := clashRow_len F hs i k
          have HSr := hid (HS.out.below hb)
          have HC9 := hid (show ∀ W', Below wr.heap.size wr W' → W'.cell? ⟨b', o' + k, none⟩ = some (.string (bs hs[k])) from fun W' h => (h.cell (p := ⟨b', o' + k, none⟩) (World.block_lt_of_cell? wr _ hck)).trans hck)
          clear ho hb hZ hcA
          go_wp2_with fail
          go_region_held3 (fun w' => w'.cell? ⟨b', o' + k, none⟩ = some (.string (bs hs[k])))
            (first | exact HC9.out _ (Below.refl _ _) | exact HC9.out _ (Below.refl _ _).drew | exact HC9.out _ Fa | exact HC9.out _ Fb)
            (first | (go_at_call 92; refine (HT.out _).mono ?_; rintro e wa ⟨rfl, ba⟩; have Fa := (Below.refl wr.heap.size wr).drew.trans (ba.mono (Nat.le_refl _))) | (go_at_call 91; refine (HTM.out _).mono ?_; rintro e wb ⟨rfl, bb⟩; have Fb := Fa.trans (bb.mono Fa.size); have hlook := (HSr.out.below Fb).look hzl))
          have HOb := hid (HO2.out.below Fb)
          have HBb := hid (HB2'.out.trans (Fb.mono hbs2))
          have hbb := HBb.out.size
          clear ba bb Fa Fb hlook
          cases hm' : memB Z F
          · have HN := hid (clashRow_no F hs (k := k) (i := i) (HCA.out.symm.trans hm'))
            clear hm'
            go_wp2
            go_roundg (m - (k + 1))
            case measure => omega
            case rel => exact ⟨k + 1, by omega, by omega, rfl, by go_num, by rw [← HN.out]; exact HOb.out, HBb.out⟩
          · have HY := hid (clashRow_yes F hs hik (HCA.out.symm.trans hm'))
            have hll : (clashTo F hs i ++ clashRow F hs i k).length ≤ 2000000 := by rw [List.length_append]; omega
            obtain ⟨PS, hPS⟩ : ∃ PS, PS = clashTo F hs i ++ clashRow F hs i k := ⟨_, rfl⟩
            have HAS := hid (show PS ++ [(i, k)] = clashTo F hs i ++ clashRow F hs i (k + 1) by rw [hPS, List.append_assoc, HY.out])
            rw [← hPS] at HOb hll
            obtain ⟨gs, p1, p2, p3, p4, p5⟩ := HOb.out
            have P1 := hid p1
            have P2 := hid p2
            have P3 := hid p3
            have P4 := hid p4
            have P5 := hid p5
            obtain ⟨L, hL⟩ : ∃ L, L = PS.length := ⟨_, rfl⟩
            have HL := hid hL
            rw [← hL] at P2 hll
            clear p1 p2 p3 p4 p5 hPS
            have hlim : L + 1 ≤ 1000000000 := by omega
            clear hm' hL
            go_wp2_with (at_builtin; refine app_slB _ (by rfl) _ _ (by rfl) w1.heap.size _ _ _ (by rfl) ((P2.out.alloc _).alloc _) (some ⟨wb.heap.size + 1, 0, none⟩) 1 1 [.slice (some ⟨wb.heap.size, 0, none⟩) 2 2] (by rfl) (by have := Rd.blk (wb.alloc (.cells #[.int .i64 i, .int .i64 k] 3)) [.slice (some ⟨wb.heap.size, 0, none⟩) 2 2] 54; simpa using this) (by intro u hu; simp at hu; subst hu; rfl) hlim (by simp; omega) ?_; intro v5 w5 o5 g5 f5)
            go_roundg (m - (k + 1))
            case measure => omega
            case rel =>
              have hp := PairsO.push (p := (i, k)) P1.out (by rw [← HL.out]; exact P2.out) P3.out P4.out P5.out hbb _ (by rw [← HL.out]; exact o5) g5 f5
              rw [HAS.out] at hp
              exact ⟨k + 1, by omega, by omega, rfl, by go_num, hp, ((HBb.out.alloc (by omega) _).alloc (by simp; omega) _).grown g5 (by simp; omega) fun q hq => (P2.out.lt q hq).1⟩
        · obtain rfl : k = m := by omega
          have HO2 := hid ho
          have HB2' := hid hb
          clear ho hb
          go_wp2
          go_roundg (k - (i + 1))
          case measure => omega
          case rel => exact ⟨i + 1, by omega, rfl, by go_num, by rw [← HST.out, hl.out]; exact HO2.out, HB2'.out⟩
    · obtain rfl : i = m := by omega
      have HO := hid ho
      clear ho
      go_wp2
      go_ret
      exact ⟨_, rfl, HO.out.mono (Nat.le_trans hw2 hw1), HB2.out.trans ((HB1.out.trans (hb.mono hw1)).mono hw2)⟩
set_option maxHeartbeats 2000000 in
theorem l11ClashesP_any (N : Nat) (nm : List UInt8) (ca hs : List (List UInt8)) (A B : Option Addr) (n c m d : Nat) (w : World) (lo : 3 ≤ N) (hi : N ≤ 8) (hra : Rd w A n (strV ca)) (hrb : Rd w B m (strV hs)) (hn : n ≤ 1000) (hm : m ≤ 1000) (hsa : ∀ x ∈ ca, okChange (N : Int) x = true) (hh : ∀ x ∈ hs, IsRow x ∧ x.length = N) :
    Calls Try.prog 69 #[.agg #[.string (bs nm), .int .i64 N, .slice A n c], .slice B m d] w (PairsR w (clashTo (quotL (leadL (roundsL N) ca) (leadL (roundsL N) ca)) hs m)) := by
  have HF := fun (w0 : World) (rd : Rd w0 A n (strV ca)) => hid (l11Heads_any N nm ca A n c w0 lo hi rd hn hsa)
  have hla : (leadL (roundsL N) ca).length = n := by have := hra.1; rw [strV_len] at this; rw [lead_len, this]
  have hfl := setL_len (quotL (leadL (roundsL N) ca) (leadL (roundsL N) ca))
  rw [quotL_len, hla] at hfl
  have hnn : n * n ≤ 1000000 := Nat.le_trans (Nat.mul_le_mul hn hn) (by omega)
  have hl := hid (show hs.length = m by have := hrb.1; rw [strV_len] at this; exact this)
  have HH := hid hh
  have RA := hid hra
  have RB := hid hrb
  clear hra hrb hsa hh
  rw [← clashTo_set]
  generalize setL (quotL (leadL (roundsL N) ca) (leadL (roundsL N) ca)) = F at *
  have HFL := hid (show F.length ≤ 1048576 by omega)
  clear hla hfl hnn
  go_enter Try.func69, Try.ntmps69
  go_wp2_with fail
  obtain ⟨B2, hsz, HC⟩ := box_mk1 28 w nm (N : Int) (.slice A n c)
  have R2 := hid (RA.out.below B2)
  have RB2 := hid (RB.out.below B2)
  have HB2 := hid B2
  have hw2 := B2.size
  generalize (w.alloc (.cells #[.string (bs nm), .int .i64 (N : Int), .slice A n c] 28)) = W2 at *
  clear hsz HC B2
  refine (HF _ R2.out).out.mono ?_
  rintro e w1 ⟨vF, rfl, oF, b1⟩
  obtain ⟨AF, cF, rfl, _, _, rdF, _⟩ := own_shape oF
  have HB1 := hid b1
  have HS := hid rdF
  have RB1 := hid (RB2.out.below b1)
  have hw1 := b1.size
  clear b1 oF rdF
  go_wp2_with fail
  have HKM := hid (show ∀ k, k ≤ m → k * m ≤ 1000000 from fun k hk => Nat.le_trans (Nat.mul_le_mul (Nat.le_trans hk hm) hm) (by omega))
  skip
  go_loopg [6, 13] m (fun gk u v wr => ∃ i : Nat, i ≤ m ∧ gk = m - i ∧ v = .int .i64 i ∧ PairsO wr w1.heap.size u (clashTo F hs i) ∧ Below w1.heap.size w1 wr)
  case atStart => exact ⟨0, by omega, by omega, rfl, PairsO.nil (World.ownsRow_nil _ _ _ _), Below.refl _ _⟩
  case round =>
    obtain ⟨i, hi', rfl, rfl, ho, hb⟩ := hrel
    by_cases hlt : i < m
    · obtain ⟨b', o', hB, hj', hc⟩ := (RB1.out.below hb).str hlt
      have rowi := hid (HH.out _ (List.getElem_mem hj'))
      have hk0 : (0 : Int) ≤ (i : Int) := by omega
      have hk1 : (i : Int) < (m : Int) := by omega
      subst hB
      have HST := hid (clashTo_step F hs i)
      have HO := hid ho
      have HB := hid hb
      have hbs := hb.size
      obtain ⟨w2, hw2'⟩ : ∃ w2, w2 = wr := ⟨_, rfl⟩
      subst hw2'
      clear ho hb
      go_wp2_with fail
      have HT := hid (fun w0 => l1Turn_any hs[i] w0 rowi.out.1)
      have hkm := HKM.out i hi'
      have hcl := clashTo_len F hs i
      rw [hl.out] at hcl
      skip
      go_loopg [6, 8] (m - (i + 1)) (fun gk u v wr => ∃ k : Nat, i < k ∧ k ≤ m ∧ gk = m - k ∧ v = .int .i64 k ∧ PairsO wr w1.heap.size u (clashTo F hs i ++ clashRow F hs i k) ∧ Below w1.heap.size w1 wr)
      case atStart => exact ⟨i + 1, by omega, by omega, rfl, by go_num, by rw [clashRow_zero, List.append_nil]; exact HO.out, HB.out⟩
      case round =>
        obtain ⟨k, hik, hk', rfl, rfl, ho, hb⟩ := hrel
        by_cases hltk : k < m
        · obtain ⟨b3, o3, hB3, hjk, hck⟩ := (RB1.out.below hb).str hltk
          injection hB3 with hB3
          injection hB3 with f1 f2 _
          subst f1 f2
          obtain ⟨b4, o4, hB4, _, hci⟩ := (RB1.out.below hb).str hlt
          injection hB4 with hB4
          injection hB4 with f3 f4 _
          subst f3 f4
          have rowk := hid (HH.out _ (List.getElem_mem hjk))
          have hkk0 : (0 : Int) ≤ (k : Int) := by omega
          have hkk1 : (k : Int) < (m : Int) := by omega
          have HTM := hid (fun w0 => l1Times_any (turnL hs[i]) hs[k] w0 (turn_row rowi.out.1) rowk.out.1 (by rw [turn_len, rowi.out.2, rowk.out.2]))
          have hcA : memB (timesL (turnL hs[i]) hs[k]) F = clashAt F hs i k := by unfold clashAt; simp [List.getD, hj', hjk]
          obtain ⟨Z, hZ⟩ : ∃ Z, Z = timesL (turnL hs[i]) hs[k] := ⟨_, rfl⟩
          have hzl : Z.length ≤ 1048576 := by rw [hZ, times_len, rowk.out.2]; omega
          rw [← hZ] at HTM hcA
          have HCA := hid hcA
          have HO2 := hid ho
          have HB2' := hid hb
          have hbs2 := hb.size
          have hrl := clashRow_len F hs i k
          have HSr := hid (HS.out.below hb)
          have HHas := hid (fun w0 rd0 => l1HasS_any AF F.length cF F Z w0 rd0 HFL.out)
          have HC9 := hid (show ∀ W', Below wr.heap.size wr W' → W'.cell? ⟨b', o' + k, none⟩ = some (.string (bs hs[k])) ∧ W'.cell? ⟨b', o' + i, none⟩ = some (.string (bs hs[i])) from fun W' h => ⟨(h.cell (p := ⟨b', o' + k, none⟩) (World.block_lt_of_cell? wr _ hck)).trans hck, (h.cell (p := ⟨b', o' + i, none⟩) (World.block_lt_of_cell? wr _ hci)).trans hci⟩)
          clear ho hb hZ hcA
          go_wp2_with fail
          go_region_held3 (fun w' => w'.cell? ⟨b', o' + k, none⟩ = some (.string (bs hs[k])) ∧ w'.cell? ⟨b', o' + i, none⟩ = some (.string (bs hs[i])))
            (first | exact HC9.out _ (Below.refl _ _) | exact HC9.out _ (Below.refl _ _).drew | exact HC9.out _ Fa)
            (first | (go_at_call 103; refine (HT.out _).mono ?_; rintro e wa ⟨rfl, ba⟩; have Fa := (Below.refl wr.heap.size wr).drew.trans (ba.mono (Nat.le_refl _))) | (go_at_call 102; refine (HTM.out _).mono ?_; rintro e w' ⟨rfl, rfl⟩) | (go_at_call 86; refine (HHas.out _ (HSr.out.below Fa)).mono ?_; rintro e w' ⟨rfl, rfl⟩))
          have HOb := hid (HO2.out.below Fa)
          have HBb := hid (HB2'.out.trans (Fa.mono hbs2))
          have hbb := HBb.out.size
          clear ba Fa
          cases hm' : memB Z F
          · have HN := hid (clashRow_no F hs (k := k) (i := i) (HCA.out.symm.trans hm'))
            clear hm'
            go_wp2
            go_roundg (m - (k + 1))
            case measure => omega
            case rel => exact ⟨k + 1, by omega, by omega, rfl, by go_num, by rw [← HN.out]; exact HOb.out, HBb.out⟩
          · have HY := hid (clashRow_yes F hs hik (HCA.out.symm.trans hm'))
            have hll : (clashTo F hs i ++ clashRow F hs i k).length ≤ 2000000 := by rw [List.length_append]; omega
            obtain ⟨PS, hPS⟩ : ∃ PS, PS = clashTo F hs i ++ clashRow F hs i k := ⟨_, rfl⟩
            have HAS := hid (show PS ++ [(i, k)] = clashTo F hs i ++ clashRow F hs i (k + 1) by rw [hPS, List.append_assoc, HY.out])
            rw [← hPS] at HOb hll
            obtain ⟨gs, p1, p2, p3, p4, p5⟩ := HOb.out
            have P1 := hid p1
            have P2 := hid p2
            have P3 := hid p3
            have P4 := hid p4
            have P5 := hid p5
            obtain ⟨L, hL⟩ : ∃ L, L = PS.length := ⟨_, rfl⟩
            have HL := hid hL
            rw [← hL] at P2 hll
            clear p1 p2 p3 p4 p5 hPS
            have hlim : L + 1 ≤ 1000000000 := by omega
            clear hm' hL
            go_wp2_with (at_builtin; refine app_slB _ (by rfl) _ _ (by rfl) w1.heap.size _ _ _ (by rfl) ((P2.out.alloc _).alloc _) (some ⟨wa.heap.size + 1, 0, none⟩) 1 1 [.slice (some ⟨wa.heap.size, 0, none⟩) 2 2] (by rfl) (by have := Rd.blk (wa.alloc (.cells #[.int .i64 i, .int .i64 k] 3)) [.slice (some ⟨wa.heap.size, 0, none⟩) 2 2] 54; simpa using this) (by intro u hu; simp at hu; subst hu; rfl) hlim (by simp; omega) ?_; intro v5 w5 o5 g5 f5)
            go_roundg (m - (k + 1))
            case measure => omega
            case rel =>
              have hp := PairsO.push (p := (i, k)) P1.out (by rw [← HL.out]; exact P2.out) P3.out P4.out P5.out hbb _ (by rw [← HL.out]; exact o5) g5 f5
              rw [HAS.out] at hp
              exact ⟨k + 1, by omega, by omega, rfl, by go_num, hp, ((HBb.out.alloc (by omega) _).alloc (by simp; omega) _).grown g5 (by simp; omega) fun q hq => (P2.out.lt q hq).1⟩
        · obtain rfl : k = m := by omega
          have HO2 := hid ho
          have HB2' := hid hb
          clear ho hb
          go_wp2
          go_roundg (k - (i + 1))
          case measure => omega
          case rel => exact ⟨i + 1, by omega, rfl, by go_num, by rw [← HST.out, hl.out]; exact HO2.out, HB2'.out⟩
    · obtain rfl : i = m := by omega
      have HO := hid ho
      clear ho
      go_wp2
      go_ret
      exact ⟨_, rfl, HO.out.mono (Nat.le_trans hw2 hw1), HB2.out.trans ((HB1.out.trans (hb.mono hw1)).mono hw2)⟩
end Go.Proofs.Ytiajeheonoebnaa
