/- The statement of FnExactClashesIn: called with any arguments that can be read as data, the law returns true, and every argument reads afterwards as it read before. No conditions. -/
import Derived.Test.YtiajeheonoebnaaPairs
import Derived.Test.YtiajeheonoebnaaHelp
import Derived.Test.YtiajeheonoebnaaExpQ2
import Derived.Test.YtiajeheonoebnaaMeth2
import Derived.Test.YtiajeheonoebnaaRows
import Derived.ShutString
import Derived.ChangeOld
set_option linter.unusedVariables false
set_option linter.unusedSimpArgs false
set_option maxRecDepth 100000
namespace Go.Proofs.Ytiajeheonoebnaa
open Go.RowKit

set_option maxHeartbeats 1000000 in
theorem eqIntSS_any (A B : Option Addr) (n ca cb : Nat) (LL : List (List Int)) (w : World) (ha : RdSS w A n LL) (hb : RdSS w B n LL) (hn : n ≤ 1048576) (hs : ∀ l ∈ LL, l.length ≤ 1048576) :
    Calls Try.prog 28 #[.slice A n ca, .slice B n cb] w fun e w' => e = .returned (.bool true) ∧ Below w.heap.size w w' := by
  have HA := hid ha
  have HB := hid hb
  have HS := hid hs
  clear ha hb hs
  go_enter Try.func28, Try.ntmps28
  go_wp2
  go_loopg [5] n (fun gk i wr => ∃ k : Nat, k ≤ n ∧ gk = n - k ∧ i = .int .i64 k ∧ Below w.heap.size w wr)
  case atStart => exact ⟨0, by omega, by omega, rfl, Below.refl _ _⟩
  case round =>
    obtain ⟨k, hk, rfl, rfl, hb⟩ := hrel
    by_cases hlt : k < n
    · obtain ⟨b1, o1, rfl, hk1, B1, c1, hc1, _, r1⟩ := (HA.out.below hb).at_ hlt
      obtain ⟨b2, o2, rfl, hk2, B2, c2, hc2, _, r2⟩ := (HB.out.below hb).at_ hlt
      have hl := HS.out _ (List.getElem_mem hk1)
      obtain ⟨l, hll⟩ : ∃ l, l = LL[k] := ⟨_, rfl⟩
      rw [← hll] at hc1 hc2 r1 r2 hl
      clear hll
      have hk0 : (0 : Int) ≤ (k : Int) := by omega
      have hi : (k : Int) < (n : Int) := by omega
      have HE := hid (fun w0 (x1 : Rd w0 B1 l.length (intV l)) (x2 : Rd w0 B2 l.length (intV l)) => (eqIntS_any B1 B2 l.length l.length c1 c2 l l w0 x1 x2 (by omega) (by omega)).mono (fun e w' h => (⟨h.1.trans (ret_bool (decide_eq_true rfl)), h.2⟩ : e = .returned (.bool true) ∧ ∃ k, w' = w0.drewN k)))
      have R1 := hid r1
      have R2 := hid r2
      have HBw := hid hb
      have hbs := hb.size
      have HC9 := hid (show ∀ W', Below wr.heap.size wr W' → W'.cell? ⟨b1, o1 + k, none⟩ = some (.slice B1 l.length c1) ∧ W'.cell? ⟨b2, o2 + k, none⟩ = some (.slice B2 l.length c2) from fun W' h => ⟨(h.cell (p := ⟨b1, o1 + k, none⟩) (World.block_lt_of_cell? wr _ hc1)).trans hc1, (h.cell (p := ⟨b2, o2 + k, none⟩) (World.block_lt_of_cell? wr _ hc2)).trans hc2⟩)
      obtain ⟨m0, m1⟩ := HC9.out _ (Below.refl wr.heap.size wr)
      clear hb r1 r2 hc1 hc2 hl
      go_wp2_with fail
      go_region_held3 (fun w' => w'.cell? ⟨b1, o1 + k, none⟩ = some (.slice B1 l.length c1) ∧ w'.cell? ⟨b2, o2 + k, none⟩ = some (.slice B2 l.length c2))
        (first | exact HC9.out _ (Below.refl _ _) | exact HC9.out _ (Below.refl _ _).drew | exact HC9.out _ Fa)
        (first | (go_at_call 36; refine (HE.out _ (R1.out.below (Below.refl wr.heap.size wr).drew) (R2.out.below (Below.refl wr.heap.size wr).drew)).mono ?_; rintro e wa ⟨rfl, qa, rfl⟩; have Fa := below_drewN (Below.refl wr.heap.size wr) (1 + qa)))
      have HFa := hid (HBw.out.trans (Fa.mono hbs))
      clear Fa m0 m1
      go_wp2
      go_roundg (n - (k + 1))
      case measure => omega
      case rel => exact ⟨k + 1, by omega, rfl, by go_num, HFa.out⟩
    · go_wp2
      go_ret
      exact ⟨rfl, hb⟩

set_option maxHeartbeats 1000000 in
theorem markIntSS_any (base : Nat) (v : Value) (ps : List (Nat × Nat)) (w : World) (h : PairsO w base v ps) (hb : base ≤ w.heap.size) (hn : ps.length ≤ 1000000) :
    Calls Try.prog 32 #[v, .int .i64 1] w fun e w' => e = .returned (.int .i64 ((1 + 2 * ps.length : Nat) : Int)) ∧ PairsO w' base v (marksP ps.length) ∧ Below base w w' := by
  obtain ⟨gs, h1, h2, h3, h4, h5⟩ := h
  obtain ⟨A, c, rfl, hcap, _, rd, _⟩ := own_shape h2
  obtain ⟨n, hn'⟩ : ∃ n, n = ps.length := ⟨_, rfl⟩
  have HP := hid (show ∀ k, k ≤ n → (marksP k ++ ps.drop k).length = n from fun k hk => by rw [List.length_append, marksP_len, List.length_drop]; omega)
  have HL := hid h1
  have H3 := hid h3
  have H4 := hid h4
  have S0 := hid (show w.ownsRow base 54 1 (.slice A ps.length c) (marksP 0 ++ ps.drop 0).length (gs.map slcV) from h2)
  have T0 := hid (show ∀ (i : Nat) (h1 : i < gs.length) (h2 : i < (marksP 0 ++ ps.drop 0).length), Blk w gs[i] 3 (intV (pairL (marksP 0 ++ ps.drop 0)[i])).toArray from h5)
  have hps := hid hn'
  have hgn := hid (show gs.length = n by omega)
  clear h1 h2 h3 h4 h5 rd
  rw [← hn'] at S0 hcap hn ⊢
  clear hn'
  go_enter Try.func32, Try.ntmps32
  go_wp2
  go_loopg [1, 5] n (fun gk u v wr => ∃ k : Nat, k ≤ n ∧ gk = n - k ∧ u = .int .i64 ((1 + 2 * k : Nat) : Int) ∧ v = .int .i64 k ∧ wr.ownsRow base 54 1 (.slice A n c) (marksP k ++ ps.drop k).length (gs.map slcV) ∧ (∀ (i : Nat) (h1 : i < gs.length) (h2 : i < (marksP k ++ ps.drop k).length), Blk wr gs[i] 3 (intV (pairL (marksP k ++ ps.drop k)[i])).toArray) ∧ Below base w wr)
  case atStart => exact ⟨0, by omega, by omega, rfl, rfl, S0.out, T0.out, Below.refl _ _⟩
  case round =>
    obtain ⟨k, hk, rfl, rfl, rfl, ho, ht, hB⟩ := hrel
    by_cases hlt : k < n
    · have hkg : k < gs.length := by rw [hgn.out]; exact hlt
      have hkp : k < (marksP k ++ ps.drop k).length := by rw [HP.out k hk]; exact hlt
      have hBk := ht k hkg hkp
      have hsz := HP.out k hk
      obtain ⟨A', c', e', _, _, rd, _⟩ := own_shape ho
      injection e' with e1 e2 e3
      subst e1 e3
      rw [hsz] at rd
      obtain ⟨b, o, rfl, hcell0⟩ := rd.at_ hlt
      have hcell : wr.cell? ⟨b, o + k, none⟩ = some (slcV (gs[k]'hkg)) := by rw [hcell0]; simp
      clear hcell0
      have hg := H4.out _ (List.getElem_mem hkg)
      have hdrop : (marksP k ++ ps.drop k).set k (1 + 2 * k, 2 + 2 * k) = marksP (k + 1) ++ ps.drop (k + 1) := by
        rw [List.set_append, if_neg (by rw [marksP_len]; omega), marksP_len, Nat.sub_self, marksP_succ, List.append_assoc]
        rw [List.drop_eq_getElem_cons (show k < ps.length by have := hps.out; omega), List.set_cons_zero]; rfl
      have own0 : wr.ownsRow base 3 1 (slcV gs[k]) 2 (intV (pairL (marksP k ++ ps.drop k)[k])) := by
        have := own_of_blk hBk hg.1 (by simp [intV, pairL, maxLen])
        simpa [slcV, intV, pairL] using this
      have PS := hid (fun (w' : World) (g5 : wr.grownBy w' (some gs[k])) (hb : Blk w' gs[k] 3 (intV (pairL (1 + 2 * k, 2 + 2 * k))).toArray) => pairs_set (by rw [hgn.out, hsz]) ho H3.out H4.out ht k hkg (1 + 2 * k, 2 + 2 * k) g5 hb)
      rw [hdrop] at PS
      have HM := hid (markIntS_any base 2 (1 + 2 * k) ((1 + 2 * k : Nat) : Int) _ (slcV gs[k]) wr own0 rfl (by omega))
      have HBB := hid hB
      have hgl := hid hBk.lt
      have hg1 := hg.1
      have hk0 : (0 : Int) ≤ (k : Int) := by omega
      have hi : (k : Int) < (n : Int) := by omega
      unfold slcV at hcell
      clear ho ht hB hBk hdrop own0 rd hg hkp hsz e2
      go_wp2_with fail
      refine HM.out.mono ?_
      rintro e w1 ⟨rfl, o1, g1⟩
      have hb1 := blk_of_own o1
      rw [marks_pair] at hb1
      have hq := PS.out w1 g1 hb1
      have HQ := hid hq
      have hbw : base ≤ wr.heap.size := Nat.le_trans hb HBB.out.size
      have HB1 := hid (HBB.out.trans (((Below.refl wr.heap.size wr).mono hbw).grown g1 hbw (fun q hq => by have e : some gs[k] = some q := hq; injection e with e; subst e; exact hg1) : Below base wr w1))
      clear o1 g1 hb1 hq
      go_wp2
      go_roundg (n - (k + 1))
      case measure => omega
      case rel => exact ⟨k + 1, by omega, rfl, by first | go_num | (congr 2; omega), by go_num, HQ.out.1, HQ.out.2, HB1.out⟩
    · obtain rfl : k = n := by omega
      have hd : ps.drop k = [] := List.drop_of_length_le (by have := hps.out; omega)
      simp only [hd, List.append_nil] at ho ht
      have HO := hid ho
      have HT := hid ht
      clear ho ht
      go_wp2
      go_ret
      exact ⟨rfl, ⟨gs, by rw [marksP_len]; exact hgn.out, HO.out, H3.out, by have := H4.out; rw [← hps.out] at this; exact this, HT.out⟩, hB⟩

set_option maxHeartbeats 1000000 in
theorem heldIntSS_any (A : Option Addr) (n c : Nat) (w : World) (h : RdSS w A n ((marksP n).map pairL)) (hn : n ≤ 1000000) :
    Calls Try.prog 33 #[.slice A n c, .int .i64 1] w fun e w' => e = .returned (.int .i64 ((1 + 2 * n : Nat) : Int)) ∧ Below w.heap.size w w' := by
  have HA := hid h
  clear h
  go_enter Try.func33, Try.ntmps33
  go_wp2
  go_loopg [1, 5] n (fun gk u v wr => ∃ k : Nat, k ≤ n ∧ gk = n - k ∧ u = .int .i64 ((1 + 2 * k : Nat) : Int) ∧ v = .int .i64 k ∧ Below w.heap.size w wr)
  case atStart => exact ⟨0, by omega, by omega, rfl, rfl, Below.refl _ _⟩
  case round =>
    obtain ⟨k, hk, rfl, rfl, rfl, hb⟩ := hrel
    by_cases hlt : k < n
    · obtain ⟨b1, o1, rfl, hk1, B1, c1, hc1, _, r1⟩ := (HA.out.below hb).at_ hlt
      have e1 : ((marksP n).map pairL)[k] = marksI (1 + 2 * k) 2 := by rw [marks_pair]; simp [marksP]
      rw [e1] at hc1 r1
      have e2 : (marksI (1 + 2 * k) 2).length = 2 := by simp [marksI]
      rw [e2] at hc1 r1
      have HH := hid (heldIntS_any B1 2 c1 (1 + 2 * k) ((1 + 2 * k : Nat) : Int) wr r1 rfl (by omega))
      have HB := hid hb
      have hk0 : (0 : Int) ≤ (k : Int) := by omega
      have hi : (k : Int) < (n : Int) := by omega
      clear hb r1 e1 e2
      go_wp2_with fail
      refine HH.out.mono ?_
      rintro e w1 ⟨rfl, rfl⟩
      go_wp2
      go_roundg (n - (k + 1))
      case measure => omega
      case rel => exact ⟨k + 1, by omega, rfl, by first | go_num | (congr 2; omega), by go_num, HB.out⟩
    · obtain rfl : k = n := by omega
      go_wp2
      go_ret
      exact ⟨rfl, hb⟩
end Go.Proofs.Ytiajeheonoebnaa

set_option linter.unusedVariables false
set_option linter.unusedSimpArgs false
set_option maxRecDepth 100000
namespace Go.Proofs.Ytiajeheonoebnaa
open Go.RowKit

theorem PairsO.far {w w' : World} {base : Nat} {v : Value} {ps : List (Nat × Nat)} {r : Option Nat} (h : PairsO w base v ps) (g : w.grownBy w' r) (hne : ∀ q, r = some q → q < base) : PairsO w' base v ps := by
  obtain ⟨gs, h1, h2, h3, h4, h5⟩ := h
  refine ⟨gs, h1, own_other h2 g (fun k hk hr => by have h6 := (h2.lt k hk).1; have h7 := hne k hr; omega), h3, h4, fun i i1 i2 => blk_grown2 g (h5 i i1 i2) (fun e => by have h6 := (h4 _ (List.getElem_mem i1)).1; have h7 := hne _ e; omega)⟩
theorem PairsO.drewN {w : World} {base : Nat} {v : Value} {ps : List (Nat × Nat)} (h : PairsO w base v ps) (k : Nat) : PairsO (w.drewN k) base v ps := h.below (below_drewN (Below.refl _ _) k)
theorem PairsO.rd2 {w : World} {base n c : Nat} {A : Option Addr} {ps : List (Nat × Nat)} (h : PairsO w base (.slice A n c) ps) : RdSS w A ps.length (ps.map pairL) := by
  obtain ⟨A', c', e, _, rd⟩ := h.rd
  obtain ⟨rfl, _, _⟩ : A = A' ∧ n = ps.length ∧ c = c' := by injection e with e1 e2 e3; exact ⟨e1, e2, e3⟩
  exact rd
theorem pairs_two (ps : List (Nat × Nat)) : ∀ x ∈ ps.map pairL, x.length ≤ 1048576 := fun x hx => by
  simp only [List.mem_map] at hx
  obtain ⟨p, _, rfl⟩ := hx
  simp [pairL]
theorem own_rd2 {w : World} {base n c : Nat} {A : Option Addr} {xs : List Value} (h : w.ownsRow base 9 1 (.slice A n c) n xs) : Rd w A n xs := by
  obtain ⟨A', c', e', _, _, rd', _⟩ := own_shape h
  obtain ⟨rfl, rfl⟩ : A = A' ∧ c = c' := by injection e' with e1 e2 e3; exact ⟨e1, e3⟩
  exact rd'
set_option maxHeartbeats 4000000 in
theorem LawClashesIn.walk (v : Value) (m : Meth) (u : Value) (l : List (List UInt8)) (w : World) (hv : InMethod w v m) (hu : InStrs w u l) :
    Calls Try.prog 7 #[v, u] w fun e w' => e = .returned (.bool true) ∧ Below w.heap.size w w' := by
  obtain ⟨nm, st, ch⟩ := m
  have SZ := fun left w0 (hw0 : InMethod w0 v ⟨nm, st, ch⟩) h0 h1 => hid (szMethod_any ⟨nm, st, ch⟩ v left w0 hw0 h0 h1)
  have HIM := hid (fun (w0 : World) (hb : Below w.heap.size w w0) => inMethod_below hv hb)
  obtain ⟨_, rfl, hn, wst, A, n, c, rfl, hn2, hr, hs⟩ := hv
  obtain ⟨B, d, e0, rfl, hdm, hru, hsu⟩ := hu
  have SK := fun left w0 (rd : Rd w0 B d (strV l)) h0 h1 => hid (szStringS_any B d e0 l left w0 rd hdm hsu h0 h1)
  dsimp only at *
  have hln : ch.length = n := by have := hr.1; rw [strV_len] at this; exact this
  have hld : l.length = d := by have := hru.1; rw [strV_len] at this; exact this
  have HR := hid hr
  have HRU := hid hru
  have HS := hid hs
  clear hr hs hru
  go_enter Try.func7, Try.ntmps7
  go_wp2_with fail
  obtain ⟨B2, hsz, HC⟩ := box_mk1 24 w nm st (.slice A n c)
  generalize (w.alloc (.cells #[.string (bs nm), .int .i64 st, .slice A n c] 24)) = W2 at *
  have HB2 := hid B2
  have HIM2 := hid (HIM.out W2 B2)
  have R2 := hid (HR.out.below B2)
  have RU2 := hid (HRU.out.below B2)
  have hw2 : w.heap.size ≤ W2.heap.size := B2.size
  clear B2 hsz
  refine (SZ _ _ HIM2.out (by decide) (by decide)).out.mono ?_
  rintro e w1 ⟨r, rfl, b1, hr1, hr2⟩
  have HB1 := hid b1
  have hs1 := b1.size
  clear b1
  by_cases hneg : r < 0
  · go_wp2
    go_ret
    exact ⟨rfl, HB2.out.trans (HB1.out.mono hw2)⟩
  have hsum := hr2 (by omega)
  dsimp only at hsum
  have r1 : r ≤ 1048576 := by omega
  have r0 : 0 ≤ r := by omega
  clear hr1 hr2
  have HSUM := hid hsum
  clear hsum
  go_wp2_with fail
  refine (SK _ _ (RU2.out.below HB1.out) r0 r1).out.mono ?_
  rintro e ws ⟨r', rfl, rfl, hr1', hr2'⟩
  by_cases hneg' : r' < 0
  · go_wp2
    go_ret
    exact ⟨rfl, HB2.out.trans (HB1.out.mono hw2)⟩
  have hsum' := hr2' (by omega)
  have hsum := HSUM.out
  clear hr1' hr2'
  have OK : LawOk ⟨nm, st, ch⟩ ([], []) := ⟨wst, by dsimp only; omega, by dsimp only; omega, fun s h => by have := totL_mem h; dsimp only at *; omega, by simp, by simp⟩
  have HOK := hid OK
  have hn1 : n ≤ 1048576 := by omega
  have hd1 : l.length ≤ 1048576 := by omega
  have hd2 : d ≤ 1048576 := by omega
  have hch1 : ch.length ≤ 1048576 := by omega
  have hls : ∀ s ∈ l, s.length ≤ 1048576 := fun s h => by have := totL_mem h; omega
  have TM := fun w0 (b0 : Below W2.heap.size W2 w0) => hid (toMethod_any ⟨nm, st, ch⟩ A n c w0 (R2.out.below b0) hn1)
  have TS := fun w0 (b0 : Below W2.heap.size W2 w0) => hid (toStringS_any B d e0 l w0 (RU2.out.below b0) hd2)
  have SP := fun A0 c0 B0 e1 w0 (rd : Rd w0 A0 ch.length (strV ch)) (hc0 : ch.length ≤ c0) (rh : Rd w0 B0 l.length (strV l)) => hid (specClashesIn_law ⟨nm, st, ch⟩ l A0 B0 ch.length c0 l.length e1 w0 HOK.out rd hc0 rh hd1 hls)
  have IM := fun A0 c0 B0 e1 w0 (rd : Rd w0 A0 ch.length (strV ch)) (hc0 : ch.length ≤ c0) (rh : Rd w0 B0 l.length (strV l)) => hid (implClashesIn_law ⟨nm, st, ch⟩ l A0 B0 ch.length c0 l.length e1 w0 HOK.out rd hc0 rh hd1 hls)
  obtain ⟨R, hRR⟩ : ∃ R, R = clashesR ⟨nm, st, ch⟩ l := ⟨_, rfl⟩
  have hzs : R.1.length ≤ 10000 := by rw [hRR]; exact clashesR_le _ _
  rw [← hRR] at SP IM
  obtain ⟨ps, ok⟩ := R
  dsimp only at hzs
  have HP2 := hid (pairs_two ps)
  have HLS := hid hls
  clear hRR OK hsum hsum' HSUM hln hld hls
  have HHS := hid (fun W' (h : Below W2.heap.size W2 W') => (show W'.cell? ⟨w.heap.size, 0, none⟩ = some (.string (bs nm)) ∧ W'.cell? ⟨w.heap.size, 1, none⟩ = some (.int .i64 st) ∧ W'.cell? ⟨w.heap.size, 2, none⟩ = some (.slice A n c) from by
    obtain ⟨a0, a1, a2⟩ := HC.out _ h
    exact ⟨a0, a1, a2⟩))
  clear HC
  obtain ⟨n0, n1, n2⟩ := HHS.out _ HB1.out
  go_wp2_with fail
  refine (TM _ HB1.out).out.mono ?_
  rintro e wa ⟨va, rfl, oa, ba⟩
  obtain ⟨Aa, ca, rfl, hca, _, rda, _⟩ := own_shape oa
  have HEa := hid (HB1.out.trans (ba.mono HB1.out.size))
  have RDa := hid rda
  clear oa ba rda n0 n1 n2
  go_wp2_with fail
  refine (TS _ HEa.out).out.mono ?_
  rintro e wb ⟨vb, rfl, ob, bb⟩
  obtain ⟨Ab, cb, rfl, _, _, rdb, _⟩ := own_shape ob
  have HEb := hid (HEa.out.trans (bb.mono HEa.out.size))
  have RDab := hid (RDa.out.below bb)
  have RDb := hid rdb
  clear ob bb rdb
  go_wp2_with fail
  refine (SP _ _ _ _ _ RDab.out hca RDb.out).out.mono ?_
  rintro e wc ⟨vc, rfl, oc, bc⟩
  obtain ⟨Ac, cc, rfl, _, rdc⟩ := PairsO.rd oc
  have HEc := hid (HEb.out.trans (bc.mono HEb.out.size))
  have RC := hid rdc
  have hsc := HEc.out.size
  clear oc bc rdc
  obtain ⟨n0, n1, n2⟩ := HHS.out _ HEc.out
  go_wp2_with fail
  refine (TM _ HEc.out).out.mono ?_
  rintro e wd ⟨vd, rfl, od, bd⟩
  obtain ⟨Ad, cd, rfl, hcd, _, rdd, _⟩ := own_shape od
  have X5 := Blk.new wd 28 #[.string (bs nm), .int .i64 st, .slice Ad ch.length cd]
  have E5 := hid (bd.alloc bd.size (.cells #[.string (bs nm), .int .i64 st, .slice Ad ch.length cd] 28))
  have OD5 := hid (own_below od ((Below.refl _ _).alloc (Nat.le_refl _) (.cells #[.string (bs nm), .int .i64 st, .slice Ad ch.length cd] 28)))
  have hsz5 : wd.heap.size < (wd.alloc (.cells #[.string (bs nm), .int .i64 st, .slice Ad ch.length cd] 28)).heap.size := by simp
  clear od bd rdd n0 n1 n2
  go_wp2_with fail
  generalize (wd.alloc (.cells #[.string (bs nm), .int .i64 st, .slice Ad ch.length cd] 28)) = W5 at *
  have HE5 := hid (HEc.out.trans (E5.out.mono hsc))
  have R5 := hid (own_rd2 OD5.out)
  have HHS8 := hid (fun W' (h : Below W5.heap.size W5 W') => (show W'.cell? ⟨w.heap.size, 0, none⟩ = some (.string (bs nm)) ∧ W'.cell? ⟨w.heap.size, 1, none⟩ = some (.int .i64 st) ∧ W'.cell? ⟨w.heap.size, 2, none⟩ = some (.slice A n c) ∧ W'.cell? ⟨wd.heap.size, 0, none⟩ = some (.string (bs nm)) ∧ W'.cell? ⟨wd.heap.size, 1, none⟩ = some (.int .i64 st) ∧ W'.cell? ⟨wd.heap.size, 2, none⟩ = some (.slice Ad ch.length cd) from by
    obtain ⟨a0, a1, a2⟩ := HHS.out _ (HE5.out.trans (h.mono HE5.out.size))
    have X := X5.below h hsz5
    exact ⟨a0, a1, a2, X.cell 0, X.cell 1, X.cell 2⟩))
  clear X5
  refine (TS _ HE5.out).out.mono ?_
  rintro e we ⟨ve, rfl, oe, be⟩
  obtain ⟨Ae, ce, rfl, _⟩ := own_shape oe
  have OE := hid oe
  have B5e := hid be
  have RE := hid (own_rd2 oe)
  have R5e := hid (R5.out.below be)
  clear oe be
  obtain ⟨n0, n1, n2, x0, x1, x2⟩ := HHS8.out _ B5e.out
  go_wp2_with fail
  refine (IM _ _ _ _ _ R5e.out hcd RE.out).out.mono ?_
  rintro e wf ⟨vf, rfl, of, bf⟩
  obtain ⟨Af, cf, rfl, _, rdf⟩ := PairsO.rd of
  have B5f := hid (B5e.out.trans (bf.mono B5e.out.size))
  have Bef := hid bf
  have OF := hid of
  have RF := hid rdf
  have RCf := hid (RC.out.below (E5.out.trans (B5f.out.mono E5.out.size)))
  clear of bf rdf n0 n1 n2 x0 x1 x2
  go_wp2_with fail
  refine (eqIntSS_any _ _ _ _ _ _ _ RF.out RCf.out (by omega) HP2.out).mono ?_
  rintro e wg ⟨rfl, bg⟩
  have B5g := hid (B5f.out.trans (bg.mono B5f.out.size))
  have Beg := hid (Bef.out.trans (bg.mono Bef.out.size))
  have Bfg := hid bg
  clear bg
  obtain ⟨n0, n1, n2, x0, x1, x2⟩ := HHS8.out _ B5g.out
  go_wp2_with fail
  go_region_held3 (fun w' => w'.cell? ⟨w.heap.size, 0, none⟩ = some (.string (bs nm)) ∧ w'.cell? ⟨w.heap.size, 1, none⟩ = some (.int .i64 st) ∧ w'.cell? ⟨w.heap.size, 2, none⟩ = some (.slice A n c) ∧ w'.cell? ⟨wd.heap.size, 0, none⟩ = some (.string (bs nm)) ∧ w'.cell? ⟨wd.heap.size, 1, none⟩ = some (.int .i64 st) ∧ w'.cell? ⟨wd.heap.size, 2, none⟩ = some (.slice Ad ch.length cd))
    (first | exact HHS8.out _ B5g.out | exact HHS8.out _ B5g.out.drew | exact HHS8.out _ Eh | exact HHS8.out _ Ei)
    (first | (go_at_call 13; refine (TM _ (HE5.out.trans (B5g.out.drew.mono HE5.out.size))).out.mono ?_; rintro e wh ⟨vh, rfl, oh, bh⟩; obtain ⟨Ah, ch', rfl, _, _, rdh, _⟩ := own_shape oh; have Eh := B5g.out.drew.trans (bh.mono B5g.out.size)) | (go_at_call 15; refine (eqMethod_any ⟨nm, st, ch⟩ Ad Ah ch.length cd ch.length ch' _ (R5.out.below Eh) rdh hch1).mono ?_; rintro e wi ⟨rfl, bi⟩; have Ei := Eh.trans (bi.mono Eh.size)))
  have B5i := hid Ei
  have Bgi := hid ((Below.refl wg.heap.size wg).drew.trans ((bh.trans (bi.mono bh.size)).mono (Nat.le_refl _)))
  have Bei := hid (Beg.out.trans (Bgi.out.mono Beg.out.size))
  have Bfi := hid (Bfg.out.trans (Bgi.out.mono Bfg.out.size))
  clear oh bh rdh bi Eh Ei n0 n1 n2 x0 x1 x2
  go_wp2_with fail
  refine (TS _ (HE5.out.trans (B5i.out.mono HE5.out.size))).out.mono ?_
  rintro e wj ⟨vj, rfl, oj, bj⟩
  obtain ⟨Aj, cj, rfl, _⟩ := own_shape oj
  have B5j := hid (B5i.out.trans (bj.mono B5i.out.size))
  have Bej := hid (Bei.out.trans (bj.mono Bei.out.size))
  have Bfj := hid (Bfi.out.trans (bj.mono Bfi.out.size))
  have RJ := hid (own_rd2 oj)
  clear oj bj
  go_wp2_with fail
  refine (eqStringS_any _ _ _ _ _ _ l l _ (RE.out.below Bej.out) RJ.out (by omega) (by omega)).mono ?_
  rintro e wj' ⟨rfl, q1, rfl⟩
  have B5k := hid (below_drewN B5j.out q1)
  have Bek := hid (below_drewN Bej.out q1)
  have Bfk := hid (below_drewN Bfj.out q1)
  clear B5j Bej Bfj RJ
  obtain ⟨n0, n1, n2, x0, x1, x2⟩ := HHS8.out _ B5k.out
  go_wp2_with fail
  refine (markMethod_any wc.heap.size ⟨nm, st, ch⟩ _ ch.length _ (own_below OD5.out B5k.out) hch1 (Nat.le_trans E5.out.size B5k.out.size)).mono ?_
  rintro e wk ⟨rfl, ok', gk⟩
  have hneX : ∀ q, (Value.slice Ad ch.length cd).ownBlock = some q → q < W5.heap.size := fun q hq => (OD5.out.lt q hq).2
  have h5e := B5e.out.size
  have Bck := hid ((E5.out.trans (B5k.out.mono E5.out.size)).trans (below_of_grown (own_below OD5.out B5k.out) gk (Nat.le_trans E5.out.size B5k.out.size)))
  have OEk := hid (own_other (own_below OE.out Bek.out) gk (fun q hq hq2 => by have h1 := hneX q hq2; have h2 := (OE.out.lt q hq).1; omega))
  have OFk := hid ((OF.out.below Bfk.out).far gk (fun q hq => by have h1 := hneX q hq; omega))
  have hsk : W5.heap.size ≤ wk.heap.size := Nat.le_trans B5k.out.size gk.size
  have hsk2 : we.heap.size ≤ wk.heap.size := Nat.le_trans Bek.out.size gk.size
  clear ok' gk hneX n0 n1 n2 x0 x1 x2
  go_wp2_with fail
  refine (markStringS_any W5.heap.size l.length (1 + ch.length) _ l _ _ OEk.out (by first | rfl | (simp; done) | omega) (by omega)).mono ?_
  rintro e wl ⟨rfl, ol, gl⟩
  have hneE : ∀ q, (Value.slice Ae l.length ce).ownBlock = some q → q < we.heap.size := fun q hq => (OE.out.lt q hq).2
  have Bcl := hid (Bck.out.trans ((below_of_grown OEk.out gl hsk).mono E5.out.size))
  have OFl := hid (OFk.out.far gl hneE)
  have hsl2 : we.heap.size ≤ wl.heap.size := Nat.le_trans hsk2 gl.size
  have hK0 : ¬ ((1 + ch.length + l.length : Nat) : Int) < 0 := by omega
  have hK1 : ¬ (1 + (ch.length : Int) + (l.length : Int)) < 0 := by omega
  clear ol gl hneE
  go_wp2_with fail
  refine (eqIntSS_any _ _ _ _ _ _ _ OFl.out.rd2 (RC.out.below Bcl.out) (by omega) HP2.out).mono ?_
  rintro e wm ⟨rfl, bm⟩
  have Bcm := hid (Bcl.out.trans (bm.mono Bcl.out.size))
  have OFm := hid (OFl.out.below bm)
  have hsm2 : we.heap.size ≤ wm.heap.size := Nat.le_trans hsl2 bm.size
  clear bm
  have hce : wc.heap.size ≤ we.heap.size := Nat.le_trans E5.out.size h5e
  go_wp2_with fail
  refine (markIntSS_any we.heap.size _ ps _ OFm.out hsm2 (by omega)).mono ?_
  rintro e wn ⟨rfl, on, bn⟩
  have Bcn := hid (Bcm.out.trans (bn.mono hce))
  have RM := hid (show RdSS wn Af ps.length ((marksP ps.length).map pairL) by have := on.rd2; rwa [marksP_len] at this)
  clear on bn
  go_wp2_with fail
  refine (heldIntSS_any _ _ _ _ RM.out (by omega)).mono ?_
  rintro e wo ⟨rfl, bo⟩
  have Bco := hid (Bcn.out.trans (bo.mono Bcn.out.size))
  have RMo := hid (RM.out.below bo)
  have HEo := hid (HEc.out.trans (Bco.out.mono hsc))
  clear bo
  obtain ⟨n0, n1, n2⟩ := HHS.out _ HEo.out
  go_wp2_with fail
  refine (TM _ HEo.out).out.mono ?_
  rintro e wp ⟨vp, rfl, op, bp⟩
  obtain ⟨Ap, cp, rfl, hcp, _, rdp, _⟩ := own_shape op
  have HEp := hid (HEo.out.trans (bp.mono HEo.out.size))
  have Bop := hid bp
  have RDp := hid rdp
  clear op bp rdp n0 n1 n2
  go_wp2_with fail
  refine (TS _ HEp.out).out.mono ?_
  rintro e wq ⟨vq, rfl, oq, bq⟩
  obtain ⟨Aq, cq, rfl, _, _, rdq, _⟩ := own_shape oq
  have HEq := hid (HEp.out.trans (bq.mono HEp.out.size))
  have Boq := hid (Bop.out.trans (bq.mono Bop.out.size))
  have RDpq := hid (RDp.out.below bq)
  have RDq := hid rdq
  clear oq bq rdq
  go_wp2_with fail
  refine (IM _ _ _ _ _ RDpq.out hcp RDq.out).out.mono ?_
  rintro e wr ⟨vr, rfl, or', br⟩
  obtain ⟨Ar, cr, rfl, _, rdr⟩ := PairsO.rd or'
  have Bor := hid (Boq.out.trans (br.mono Boq.out.size))
  have RR := hid rdr
  have HEr := hid (HEo.out.trans (Bor.out.mono HEo.out.size))
  clear or' br rdr
  go_wp2_with fail
  refine (eqIntSS_any _ _ _ _ _ _ _ RR.out (RC.out.below (Bco.out.trans (Bor.out.mono Bco.out.size))) (by omega) HP2.out).mono ?_
  rintro e wt ⟨rfl, bt⟩
  have HEt := hid (HEr.out.trans (bt.mono HEr.out.size))
  have RMt := hid (RMo.out.below (Bor.out.trans (bt.mono Bor.out.size)))
  clear bt
  go_wp2_with fail
  refine (heldIntSS_any _ _ _ _ RMt.out (by omega)).mono ?_
  rintro e wz ⟨rfl, bz⟩
  have HEz := hid (HEt.out.trans (bz.mono HEt.out.size))
  clear bz
  go_wp2
  go_ret
  exact ⟨rfl, HB2.out.trans (HEz.out.mono hw2)⟩
end Go.Proofs.Ytiajeheonoebnaa

namespace Go.Proofs.Ytiajeheonoebnaa.PClashesIn
open Go.ChangeShapes Go.WideShapes Go.ChangeAt Go.RowKit
open Go.ChangeMaps (open_string shut_string)
set_option linter.unusedVariables false

theorem own : ownKnob Try.prog.godebug = none := by kernel_rfl
theorem laidOut : laidOutB Try.prog = true := by kernel_rfl

set_option maxRecDepth 100000 in
theorem lifted (os : Os) (started : os.Started) (H : Type) (enc : TypeId × Value → H) :
    ReturnsInHanded {} Try.checked os 7 .any (Rows.fnExactClashesInSpec.pre6 enc Try.prog Try.f7 Rows.fnExactClashesInRow.domain false) (Rows.fnExactClashesInSpec.post enc Try.prog Try.f7 false true false false) := by
  refine returnsInHanded_of_change (C := Try.checked) own started (by kernel_rfl) Try.func7
    (ChangeSpec.witness6 (enc := enc) (C := Try.checked) false ⟨#[], #[.agg #[.string ByteArray.empty, .int .i64 0, .slice none 0 0], .slice none 0 0], []⟩ 8 (by kernel_rfl) (by kernel_rfl) (by kernel_rfl) (by kernel_rfl)) ?_
  intro W base args ds gs before hval0 hW hcnd _
  have hval : ∀ (j : Nat) t v, Try.f7.params[j]? = some t → args[j]? = some v → Value.okWide Try.prog W .any base t v := hval0
  have hW' := hW
  obtain ⟨p, q, hA0, hV, rfl, hfz, hnd⟩ := hW
  have hA : DataW.TrodAll enc Try.prog W 0 (fun _ => true) true Try.f7.params.toList args.toList ds p := hA0
  rw [Try.params7] at hA hval
  obtain ⟨v0, vs0, d0, ds0, p0, q0, hargs, rfl, rfl, h0, r0⟩ := trodAll_cons hA
  obtain ⟨v1, vs1, d1, ds1, p1, q1, rfl, rfl, rfl, h1, r1⟩ := trodAll_cons r0
  obtain ⟨rfl, rfl, rfl⟩ := trodAll_nil r1
  obtain rfl : args = #[v0, v1] := by cases args; simp_all
  obtain ⟨rfl, rfl⟩ := trodVars_none hV
  have k0 := h0
  have lt0 : ∀ x ∈ p0, x.block < W.heap.size := by obtain ⟨m, hm⟩ := k0; exact DataW.trod_lt m _ _ _ hm
  obtain ⟨a0, w0⟩ := open_inMethod (hval 0 24 v0 rfl rfl) h0
  have k1 := h1
  have lt1 : ∀ x ∈ p1, x.block < W.heap.size := by obtain ⟨m, hm⟩ := k1; exact DataW.trod_lt m _ _ _ hm
  obtain ⟨a1, w1⟩ := open_inStrs (hval 1 22 v1 rfl rfl) h1
  clear hA0 hval0
  refine (LawClashesIn.walk v0 a0 v1 a1 W w0 w1).mono fun e W' ⟨he, bel⟩ => ?_
  subst he
  exact ⟨_, rfl, _, _, _, [], _, [], hW', trodAll_mk1 (shut_bool Try.underlying4 _), (trodAll_cons_mk (Below.trod laidOut (by kernel_rfl) (of_decide_eq_true (by kernel_rfl)) k0 bel lt0) (trodAll_cons_mk (Below.trod laidOut (by kernel_rfl) (of_decide_eq_true (by kernel_rfl)) k1 bel lt1) trodAll_mk0)), rfl, bel.frame _, fun h => by cases h⟩

theorem over : Rows.fnExactClashesInRow.holds Try.pinned (OpenSpec.ofChange Rows.fnExactClashesInSpec) :=
  OpenClaim.holds_of_wide 7 Try.f7 rfl rfl rfl rfl rfl rfl rfl ⟨rfl, rfl, rfl, rfl, rfl⟩ rfl rfl rfl rfl rfl (by kernel_rfl) Try.func7 (by kernel_rfl)
    (of_decide_eq_true (by kernel_rfl)) (by unfold Func.isWrapper; first | (rw [if_pos (by decide +kernel)]; kernel_rfl) | (rw [if_neg (by decide +kernel)]; exact ⟨rfl, rfl⟩))
    (fun os started H enc _ => lifted os started H enc)

theorem proved : Rows.FnExactClashesInSaid := over
#print axioms proved
end Go.Proofs.Ytiajeheonoebnaa.PClashesIn
