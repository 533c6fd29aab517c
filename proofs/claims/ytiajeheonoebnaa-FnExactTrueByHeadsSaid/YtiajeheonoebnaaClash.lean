/- Contract of the program's clashes: how many they are. No conditions beyond those stated. -/
import Derived.Test.YtiajeheonoebnaaExpF
import Derived.Test.YtiajeheonoebnaaClashP
import Derived.Test.YtiajeheonoebnaaTurnR
set_option linter.unusedVariables false
set_option linter.unusedSimpArgs false
set_option maxRecDepth 100000
namespace Go.Proofs.Ytiajeheonoebnaa
open Go.RowKit

theorem infoSl : (Try.prog.info? 54).map (fun i => (i.zero, i.size, i.bytes)) = some (some (.slice none 0 0), 1, 24) := by kernel_rfl
/-- append onto an owned row of slices of integers, in a plain region. -/
theorem app_sl {ops : Array Oper} {rest : List Oper} {o : Oper} {a : Act} {Q : Exit → Act → World → Prop} (w : World) (hgd : o.guard = none) (s x : Operand)
    (ho : o.op = .call { callee := .builtin .append, args := #[s, x], argTypes := #[45, 45] })
    (base : Nat) (v : Value) (n : Nat) (xs : List Value) (hs : a.eval s = v) (hown : w.ownsRow base 54 1 v n xs)
    (A : Option Addr) (m c : Nat) (news : List Value) (hx : a.eval x = .slice A m c) (hr : Rd w A m news) (h1 : ∀ u ∈ news, u.oneCell' = true) (hsz : n + m ≤ 1000000000) (hbase : base ≤ w.heap.size)
    (h : ∀ v' w', w'.ownsRow base 54 1 v' (n + m) (xs ++ news) → w.grownBy w' v.ownBlock → wpList Try.prog ops Q rest (a.put o.dst v') w') : wpList Try.prog ops Q (o :: rest) a w := by
  obtain ⟨i0, hi, hz0, hz1, hz2⟩ := info_parts infoSl
  exact wpList_plain hgd fun _ hK => wp_append_rd w s x 45 ho base 54 i0 _ 24 Try.underlying45 hi hz0 hz1 hz2 rfl v n xs hs hown A m c news hx hr h1 (by unfold maxLen; omega) (by omega) hbase fun v' w' h2 h3 _ => hK _ _ (h v' w' h2 h3)
/-- A slice of L slices of integers comes back; it is the call's own. -/
def SlicesN (w : World) (L : Nat) (e : Ending) (w' : World) : Prop := ∃ v xs, e = .returned v ∧ w'.ownsRow w.heap.size 54 1 v L xs ∧ Below w.heap.size w w'
set_option maxHeartbeats 2000000 in
theorem clashes_any (N : Nat) (nm : List UInt8) (ca hs : List (List UInt8)) (A B : Option Addr) (n c m d : Nat) (w : World) (lo : 3 ≤ N) (hi : N ≤ 8) (hra : Rd w A n (strV ca)) (hrb : Rd w B m (strV hs)) (hn : n ≤ 1000) (hm : m ≤ 1000) (hsa : ∀ x ∈ ca, okChange (N : Int) x = true) (hh : ∀ x ∈ hs, IsRow x ∧ x.length = N) :
    Calls Try.prog 71 #[.agg #[.string (bs nm), .int .i64 N, .slice A n c], .slice B m d] w (SlicesN w (clashTo (quotL (leadL (roundsL N) ca) (leadL (roundsL N) ca)) hs m).length) := by
  have HF := fun (w0 : World) (rd : Rd w0 A n (strV ca)) => hid (falseSet_any N nm nm ca ca A A n c n c w0 lo hi rd rd hn hn hsa hsa)
  have hl := hid (show hs.length = m by have := hrb.1; rw [strV_len] at this; exact this)
  have HH := hid hh
  have RA := hid hra
  have RB := hid hrb
  clear hra hrb hsa hh
  generalize quotL (leadL (roundsL N) ca) (leadL (roundsL N) ca) = F at *
  go_enter Try.func71, Try.ntmps71
  go_wp2_with fail
  obtain ⟨B2, hsz, HC⟩ := box_mk1 28 w nm (N : Int) (.slice A n c)
  have R2 := hid (RA.out.below B2)
  have RB2 := hid (RB.out.below B2)
  have HB2 := hid B2
  have hw2 := B2.size
  generalize (w.alloc (.cells #[.string (bs nm), .int .i64 (N : Int), .slice A n c] 28)) = W2 at *
  clear hsz HC B2
  refine (HF _ R2.out).out.mono ?_
  rintro e w1 ⟨g, q, rfl, hq, hS, hg, b1⟩
  have HB1 := hid b1
  have HS := hid hS
  have RB1 := hid (RB2.out.below b1)
  have hgl := hS.lt
  have hw1 := b1.size
  clear b1 hS
  go_wp2_with fail
  have HKM := hid (show ∀ k, k ≤ m → k * m ≤ 1000000 from fun k hk => Nat.le_trans (Nat.mul_le_mul (Nat.le_trans hk hm) hm) (by omega))
  go_loopg [6, 16] m (fun gk u v wr => ∃ (i : Nat) (xs : List Value), i ≤ m ∧ gk = m - i ∧ v = .int .i64 i ∧ wr.ownsRow w1.heap.size 54 1 u (clashTo F hs i).length xs ∧ Below w1.heap.size w1 wr)
  case atStart => exact ⟨0, [], by omega, by omega, rfl, own_of_blk (Blk.new _ _ #[]) (Nat.le_refl _) (by simp [maxLen]), (Below.refl _ _).alloc (Nat.le_refl _) _⟩
  case round =>
    obtain ⟨i, xs, hi', rfl, rfl, ho, hb⟩ := hrel
    by_cases hlt : i < m
    · obtain ⟨b', o', hB, hj', hc⟩ := (RB1.out.below hb).str hlt
      have rowi := hid (HH.out _ (List.getElem_mem hj'))
      have hk0 : (0 : Int) ≤ (i : Int) := by omega
      have hk1 : (i : Int) < (m : Int) := by omega
      subst hB
      have HST := hid (clashTo_step F hs i)
      have HO := hid ho
      have HB := hid hb
      have hbs := hb.size
      obtain ⟨w2, hw2'⟩ : ∃ w2, w2 = wr := ⟨_, rfl⟩
      subst hw2'
      clear ho hb
      go_wp2_with fail
      have HT := hid (fun w0 => turned_any hs[i] w0 rowi.out.1)
      have hkm := HKM.out i hi'
      have hcl := clashTo_len F hs i
      rw [hl.out] at hcl
      go_loopg [6, 9] (m - (i + 1)) (fun gk u v wr => ∃ (k : Nat) (ys : List Value), i < k ∧ k ≤ m ∧ gk = m - k ∧ v = .int .i64 k ∧ wr.ownsRow w1.heap.size 54 1 u (clashTo F hs i ++ clashRow F hs i k).length ys ∧ Below w1.heap.size w1 wr)
      case atStart => exact ⟨i + 1, xs, by omega, by omega, rfl, by go_num, by rw [clashRow_zero, List.append_nil]; exact HO.out, HB.out⟩
      case round =>
        obtain ⟨k, ys, hik, hk', rfl, rfl, ho, hb⟩ := hrel
        by_cases hltk : k < m
        · obtain ⟨b3, o3, hB3, hjk, hck⟩ := (RB1.out.below hb).str hltk
          injection hB3 with hB3
          injection hB3 with f1 f2 _
          subst f1 f2
          have rowk := hid (HH.out _ (List.getElem_mem hjk))
          have hkk0 : (0 : Int) ≤ (k : Int) := by omega
          have hkk1 : (k : Int) < (m : Int) := by omega
          have HTM := hid (fun w0 => times_any (turnL hs[i]) hs[k] w0 (turn_row rowi.out.1) rowk.out.1 (by rw [turn_len, rowi.out.2, rowk.out.2]))
          have hcA : memB (timesL (turnL hs[i]) hs[k]) F = clashAt F hs i k := by unfold clashAt; simp [List.getD, hj', hjk]
          obtain ⟨Z, hZ⟩ : ∃ Z, Z = timesL (turnL hs[i]) hs[k] := ⟨_, rfl⟩
          have hzl : Z.length ≤ 1048576 := by rw [hZ, times_len, rowk.out.2]; omega
          rw [← hZ] at HTM hcA
          have HCA := hid hcA
          have HO2 := hid ho
          have HB2' := hid hb
          have hbs2 := hb.size
          have hrl := clashRow_len F hs i k
          have HSr := hid (HS.out.below hb)
          have HC9 := hid (show ∀ W', Below wr.heap.size wr W' → W'.cell? ⟨b', o' + k, none⟩ = some (.string (bs hs[k])) from fun W' h => (h.cell (p := ⟨b', o' + k, none⟩) (World.block_lt_of_cell? wr _ hck)).trans hck)
          clear ho hb hZ hcA
          go_wp2_with fail
          go_region_held3 (fun w' => w'.cell? ⟨b', o' + k, none⟩ = some (.string (bs hs[k])))
            (first | exact HC9.out _ (Below.refl _ _) | exact HC9.out _ (Below.refl _ _).drew | exact HC9.out _ Fa | exact HC9.out _ Fb)
            (first | (go_at_call 92; refine (HT.out _).mono ?_; rintro e wa ⟨rfl, ba⟩; have Fa := (Below.refl wr.heap.size wr).drew.trans (ba.mono (Nat.le_refl _))) | (go_at_call 91; refine (HTM.out _).mono ?_; rintro e wb ⟨rfl, bb⟩; have Fb := Fa.trans (bb.mono Fa.size); have hlook := (HSr.out.below Fb).look hzl))
          have HOb := hid (own_below HO2.out Fb)
          have HBb := hid (HB2'.out.trans (Fb.mono hbs2))
          have hbb := HBb.out.size
          clear ba bb Fa Fb hlook
          cases hm' : memB Z F
          · have HN := hid (clashRow_no F hs (k := k) (i := i) (HCA.out.symm.trans hm'))
            clear hm'
            go_wp2
            go_roundg (m - (k + 1))
            case measure => omega
            case rel => exact ⟨k + 1, ys, by omega, by omega, rfl, by go_num, by rw [← HN.out]; exact HOb.out, HBb.out⟩
          · have HY := hid (clashRow_yes F hs hik (HCA.out.symm.trans hm'))
            have HLN := hid (show (clashTo F hs i ++ clashRow F hs i k).length + 1 = (clashTo F hs i ++ clashRow F hs i (k + 1)).length by rw [← HY.out, ← List.append_assoc, List.length_append (bs := [(i, k)])]; rfl)
            have hll : (clashTo F hs i ++ clashRow F hs i k).length ≤ 2000000 := by rw [List.length_append]; omega
            obtain ⟨L, hL⟩ : ∃ L, L = (clashTo F hs i ++ clashRow F hs i k).length := ⟨_, rfl⟩
            rw [← hL] at HOb HLN hll
            have hlim : L + 1 ≤ 1000000000 := by omega
            clear hm' hL
            go_wp2_with (at_builtin; refine app_sl _ (by rfl) _ _ (by rfl) w1.heap.size _ _ _ (by rfl) ((HOb.out.alloc _).alloc _) (some ⟨wb.heap.size + 1, 0, none⟩) 1 1 [.slice (some ⟨wb.heap.size, 0, none⟩) 2 2] (by rfl) (by have := Rd.blk (wb.alloc (.cells #[.int .i64 i, .int .i64 k] 3)) [.slice (some ⟨wb.heap.size, 0, none⟩) 2 2] 54; simpa using this) (by intro u hu; simp at hu; subst hu; rfl) hlim (by simp; omega) ?_; intro v5 w5 o5 g5)
            go_roundg (m - (k + 1))
            case measure => omega
            case rel =>
              rw [HLN.out] at o5
              exact ⟨k + 1, _, by omega, by omega, rfl, by go_num, o5, ((HBb.out.alloc (by omega) _).alloc (by simp; omega) _).grown g5 (by simp; omega) fun q hq => (HOb.out.lt q hq).1⟩
        · obtain rfl : k = m := by omega
          have HO2 := hid ho
          have HB2' := hid hb
          clear ho hb
          go_wp2
          go_roundg (k - (i + 1))
          case measure => omega
          case rel => exact ⟨i + 1, ys, by omega, rfl, by go_num, by rw [← HST.out, hl.out]; exact HO2.out, HB2'.out⟩
    · obtain rfl : i = m := by omega
      have HO := hid ho
      clear ho
      go_wp2
      go_ret
      exact ⟨_, xs, rfl, own_mono HO.out (Nat.le_trans hw2 hw1), HB2.out.trans ((HB1.out.trans (hb.mono hw1)).mono hw2)⟩
end Go.Proofs.Ytiajeheonoebnaa
