/- Contract of the reference's ways to go on from a place. No conditions beyond those stated. -/
import Derived.Test.YtecplhpioohhmaaAllC
set_option linter.unusedVariables false
set_option linter.unusedSimpArgs false
set_option maxRecDepth 100000
namespace Go.Proofs.Ytecplhpioohhmaa
open Go.RowKit

/-- What l2From answers with m places left. -/
def fromI (n m : Nat) : List (List Int) := (fromM n m).map natI
/-- The lists that begin with a place. -/
def consI (p : Nat) (LL : List (List Int)) : List (List Int) := LL.map ((p : Int) :: ·)
theorem fromI_one (n : Nat) : fromI n 1 = consI n (fromI n 0) := rfl
theorem fromI_step (n m : Nat) : fromI n (m + 2) = consI (n - (m + 1)) (fromI n (m + 1)) ++ fromI n m := by
  simp only [fromI, fromM, consI, List.map_append, List.map_map]
  rfl
theorem consI_take (p : Nat) (LL : List (List Int)) (k : Nat) (h : k < LL.length) : consI p (LL.take k) ++ [(p : Int) :: LL[k]] = consI p (LL.take (k + 1)) := by
  unfold consI
  rw [List.take_succ_eq_append_getElem h, List.map_append]; rfl
theorem consI_len (p : Nat) (LL : List (List Int)) : (consI p LL).length = LL.length := by simp [consI]
theorem fromI_len (n m : Nat) : (fromI n m).length = (fromM n m).length := by simp [fromI]
theorem fromI_le (n m : Nat) (hm : m ≤ 8) : (fromI n m).length ≤ 256 := by
  rw [fromI_len]
  exact Nat.le_trans (fromM_len n m) (Nat.le_trans (Nat.pow_le_pow_right (by omega) hm) (by decide))
theorem fromI_short {n m : Nat} (hm : m ≤ n) (hn : n ≤ 8) : ∀ l ∈ fromI n m, l.length ≤ 8 := by
  intro l hl
  simp only [fromI, List.mem_map] at hl
  obtain ⟨x, hx, rfl⟩ := hl
  have := (fromM_mem n m hm x hx).1
  simp [natI]; omega
theorem l2From_zero (n : Nat) (pl : Int) (w : World) (i1 : (n : Int) < pl) :
    Calls Try.prog 113 #[.int .i64 n, .int .i64 pl] w (OneSS w [[]]) := by
  go_enter Try.func113, Try.ntmps113
  go_wp2
  go_ret
  refine ⟨_, rfl, ⟨[.slice none 0 0], own_of_blk (Blk.new w _ #[.slice none 0 0]) (Nat.le_refl _) (by simp [maxLen]), fun i h1 h2 => ?_⟩, (Below.refl _ _).alloc (Nat.le_refl _) _⟩
  have : i = 0 := by simpa using h1
  subst this
  exact ⟨none, 0, rfl, Nat.le_refl _, Rd.nil _ _, fun b o s h => by cases h⟩
set_option maxHeartbeats 2000000 in
theorem l2From_succ (n p : Nat) (LL NN RR : List (List Int)) (w : World) (hn : n ≤ 8) (hp : p ≤ n)
    (ih1 : ∀ w0, Calls Try.prog 113 #[.int .i64 n, .int .i64 ((p : Int) + 1)] w0 (OneSS w0 LL))
    (ih2 : (p : Int) < n → ∀ w0, Calls Try.prog 113 #[.int .i64 n, .int .i64 ((p : Int) + 2)] w0 (OneSS w0 NN))
    (HL1 : LL.length ≤ 256) (HL2 : NN.length ≤ 256) (hsh : ∀ l ∈ LL, l.length ≤ 8) (he0 : ¬ (p : Int) < n → RR = consI p LL) (he1 : (p : Int) < n → RR = consI p LL ++ NN) :
    Calls Try.prog 113 #[.int .i64 n, .int .i64 p] w (OneSS w RR) := by
  have i1 : ¬ (n : Int) < (p : Int) := by omega
  have hw1 : (p : Int) ≤ 8 := by omega
  have IH1 := hid ih1
  have IH2 := hid ih2
  have HSh := hid hsh
  have HE0 := hid he0
  have HE1 := hid he1
  clear ih1 ih2 hsh he0 he1
  go_enter Try.func113, Try.ntmps113
  go_wp2_with fail
  refine (IH1.out _).mono ?_
  rintro e w1 ⟨v1, rfl, ⟨vs, o1, hv1⟩, b1⟩
  obtain ⟨A1, c1, rfl, _, _, rd1, _⟩ := own_shape o1
  have hvl := hid (show vs.length = LL.length from rd1.1)
  have RD1 := hid rd1
  have HV1 := hid hv1
  have HB1 := hid b1
  have hw1' := b1.size
  clear o1 rd1 hv1 b1
  go_wp2
  go_loopg [5, 17] LL.length (fun gk u v wr => ∃ k : Nat, k ≤ LL.length ∧ gk = LL.length - k ∧ v = .int .i64 k ∧ OwnIn wr w1.heap.size u (consI p (LL.take k)) ∧ Below w1.heap.size w1 wr)
  case atStart => exact ⟨0, by omega, by omega, rfl, OwnIn.nil _ _, Below.refl _ _⟩
  case round =>
    obtain ⟨k, hk, rfl, rfl, ho, hb⟩ := hrel
    by_cases hlt : k < LL.length
    · have hkv : k < vs.length := by rw [hvl.out]; exact hlt
      obtain ⟨b, o, rfl, hc⟩ := (RD1.out.below hb).at_ hlt
      obtain ⟨B, c, hvk, hcc, hrB, hfB⟩ := (HV1.out k hkv hlt).below hb
      rw [hvk] at hc
      have hst := hid (consI_take p LL k hlt)
      have hsh := HSh.out _ (List.getElem_mem hlt)
      obtain ⟨r, hr⟩ : ∃ r, r = LL[k] := ⟨_, rfl⟩
      rw [← hr] at hc hrB hst hsh hcc
      obtain ⟨xs, ox, hx⟩ := ho
      have hxl : xs.length = k := by have := ox.1; rw [consI_len, List.length_take] at this; simp at this; omega
      have hcl : (consI p (LL.take k)).length = k := by rw [consI_len, List.length_take]; omega
      have HCL := hid hcl
      have HXL := hid hxl
      rw [hcl] at ox
      have HO := hid ox
      have HX := hid hx
      have HB := hid hb
      have hbs := hb.size
      have RB := hid hrB
      have hk0 : (0 : Int) ≤ (k : Int) := by omega
      have hk1 : (k : Int) < (LL.length : Int) := by omega
      have N1 := hid (own_of_blk (Blk.new wr 3 #[.int .i64 (p : Int)]) (Nat.le_refl _) (by simp [maxLen]))
      have l1 : 1 + r.length ≤ 1000000000000 := by omega
      have l2 : k + 1 ≤ 1000000000 := by omega
      clear hb ox hx hrB hfB hvk hr hxl hcl hcc
      go_wp2_with (first
        | (at_builtin; refine app_int _ (by rfl) _ _ (by rfl) wr.heap.size _ 1 [(p : Int)] (by rfl) N1.out B r.length c r (by rfl) (RB.out.alloc _) l1 (by simp) ?_; intro v4 w4 o4 g4; obtain ⟨A4, c4, rfl, hc4, _, rd4, fr4⟩ := own_shape o4; have B4 : Below wr.heap.size wr w4 := ((Below.refl _ _).alloc (Nat.le_refl _) _).grown g4 (by simp) (fun q hq => by have e : some wr.heap.size = some q := hq; injection e with e; omega))
        | (at_builtin; refine app_slB _ (by rfl) _ _ (by rfl) w1.heap.size _ k xs (by rfl) (own_below HO.out (B4.alloc B4.size _)) (some ⟨w4.heap.size, 0, none⟩) 1 1 [.slice A4 (1 + r.length) c4] (by rfl) (by have := Rd.blk w4 [.slice A4 (1 + r.length) c4] 29; simpa using this) (by intro u hu; simp at hu; subst hu; rfl) l2 (Nat.le_trans hbs (B4.alloc B4.size _).size) ?_; intro v5 w5 o5 g5 f5))
      have B5 := B4.alloc B4.size (.cells #[.slice A4 (1 + r.length) c4] 29)
      have hnew := OwnIn.app (NN := [(p : Int) :: r]) (ns := [.slice A4 (1 + r.length) c4]) (by rw [HXL.out, HCL.out]) rfl (fun i i1 i2 => (HX.out i i1 i2).below B5) (fun i i1 i2 => by
        have : i = 0 := by simpa using i1
        subst this
        refine ⟨A4, c4, by simp [Nat.add_comm], by simp; omega, ?_, fun b o s h => ?_⟩
        · have e : intV ((p : Int) :: r) = intV ([(p : Int)] ++ r) := rfl
          simp only [List.getElem_cons_zero, List.length_cons]
          rw [e, Nat.add_comm r.length 1]
          exact rd4.alloc _
        · obtain ⟨f1, f2⟩ := fr4 b o s h
          refine ⟨by omega, by simp; omega, fun e => ?_⟩
          have := (HO.out.lt _ e).2; omega) (by rw [HCL.out]; exact o5) g5 f5
      rw [hst.out] at hnew
      have HNEW := hid hnew
      have HB5 := hid ((HB.out.trans (B5.mono hbs)).grown g5 (Nat.le_trans hbs B5.size) (fun q hq => (HO.out.lt q hq).1))
      clear o4 rd4 fr4 B4 B5 g4 o5 g5 f5 hnew
      go_roundg (LL.length - (k + 1))
      case measure => omega
      case rel => exact ⟨k + 1, by omega, rfl, by go_num, HNEW.out, HB5.out⟩
    · obtain rfl : k = LL.length := by omega
      rw [List.take_of_length_le (Nat.le_refl _)] at ho
      have HO := hid ho
      have HB := hid (HB1.out.trans (hb.mono hw1'))
      have hbs := hb.size
      clear ho hb
      by_cases hpn : (p : Int) < n
      · have hR := hid (HE1.out hpn)
        have I2 := hid (IH2.out hpn)
        clear HE0 HE1 IH2
        go_wp2_with fail
        refine (I2.out _).mono ?_
        rintro e w2 ⟨v2, rfl, ⟨vs2, o2, hv2⟩, b2⟩
        obtain ⟨A2, c2, rfl, _, _, rd2, fr2⟩ := own_shape o2
        obtain ⟨xs, ox, hx⟩ := HO.out
        have hxl : xs.length = (consI p LL).length := by have := ox.1; omega
        have hvl2 : vs2.length = NN.length := rd2.1
        have hcl := consI_len p LL
        have HXL := hid hxl
        have HVL2 := hid hvl2
        have HCL := hid hcl
        have OX := hid ox
        have HX := hid hx
        have HV2 := hid hv2
        have RD2 := hid rd2
        have B2 := hid b2
        have hb2 := b2.size
        have HB2 := hid (HB.out.trans (b2.mono HB.out.size))
        have l2 : (consI p LL).length + NN.length ≤ 1000000000 := by omega
        have hone : ∀ u ∈ vs2, u.oneCell' = true := by
          intro u hu
          obtain ⟨i, hi, rfl⟩ := List.mem_iff_getElem.1 hu
          obtain ⟨B, c, e, _⟩ := hv2 i hi (by omega)
          rw [e]; rfl
        have HONE := hid hone
        clear ox hx hv2 rd2 b2 o2 fr2 hone hxl hvl2 hcl
        go_wp2_with (at_builtin; refine app_slB _ (by rfl) _ _ (by rfl) w1.heap.size _ (consI p LL).length xs (by rfl) (own_below OX.out B2.out) A2 NN.length c2 vs2 (by rfl) RD2.out HONE.out l2 (Nat.le_trans hbs hb2) ?_; intro v5 w5 o5 g5 f5)
        have hnew := OwnIn.app (NN := NN) (ns := vs2) HXL.out HVL2.out (fun i i1 i2 => (HX.out i i1 i2).below B2.out) (fun i i1 i2 => by
          obtain ⟨B, c, e, hc, hr, hf⟩ := HV2.out i i1 i2
          exact ⟨B, c, e, hc, hr, fun b o s h => ⟨Nat.le_trans hbs (hf b o s h).1, (hf b o s h).2.1, fun e => by
            have h1 := (OX.out.lt _ e).2
            have h2 := (hf b o s h).1; omega⟩⟩) o5 g5 f5
        have HNEW := hid hnew
        have HB5 := hid (HB2.out.grown g5 HB2.out.size (fun q hq => Nat.le_trans hw1' (OX.out.lt q hq).1))
        clear o5 g5 f5 hnew
        go_wp2
        go_ret
        rw [hR.out]
        exact ⟨_, rfl, HNEW.out.mono hw1', HB5.out⟩
      · have hR := hid (HE0.out (by omega))
        clear HE0 HE1 IH2
        go_wp2
        go_ret
        rw [hR.out]
        exact ⟨_, rfl, HO.out.mono hw1', HB.out⟩
theorem l2From_any (n : Nat) (hn : n ≤ 8) : ∀ (m : Nat), m ≤ n → ∀ (pl : Int) (w : World), pl = ((n + 1 - m : Nat) : Int) →
    Calls Try.prog 113 #[.int .i64 n, .int .i64 pl] w (OneSS w (fromI n m)) := by
  intro m
  induction m using Nat.strongRecOn with
  | _ m IH =>
  intro hm pl w hpl
  rcases Nat.eq_zero_or_pos m with h0 | h0
  · subst h0
    exact l2From_zero n pl w (by omega)
  · obtain ⟨q, rfl⟩ : ∃ q, m = q + 1 := ⟨m - 1, by omega⟩
    obtain ⟨p, rfl⟩ : ∃ p : Nat, pl = p := ⟨n - q, by omega⟩
    refine l2From_succ n p (fromI n q) (fromI n (q - 1)) _ w hn (by omega) (fun w0 => IH q (by omega) (by omega) _ w0 (by omega)) (fun h w0 => IH (q - 1) (by omega) (by omega) _ w0 (by omega)) (fromI_le n q (by omega)) (fromI_le n (q - 1) (by omega)) (fromI_short (by omega) hn) (fun h => ?_) (fun h => ?_)
    · obtain rfl : q = 0 := by omega
      rw [fromI_one]; congr 1; omega
    · obtain ⟨q', rfl⟩ : ∃ q', q = q' + 1 := ⟨q - 1, by omega⟩
      rw [fromI_step, Nat.add_sub_cancel]; congr 2; omega
end Go.Proofs.Ytecplhpioohhmaa
