/- Contracts of PartSet and LeastIn, in the reference and in the program. No conditions beyond those stated. -/
import Derived.Test.YtecplhpioohhmaaOrd
import Derived.Test.YtecplhpioohhmaaSort6
import Derived.Test.YtecplhpioohhmaaShSort
set_option linter.unusedVariables false
set_option linter.unusedSimpArgs false
set_option maxRecDepth 100000
namespace Go.Proofs.Ytecplhpioohhmaa
open Go.RowKit

/-- The products of the first k powers of e with x. -/
def setTo (e x : List UInt8) (k : Nat) : List (List UInt8) := (List.range k).map fun i => timesL (powL e i) x
theorem setTo_len (e x : List UInt8) (k : Nat) : (setTo e x k).length = k := by simp [setTo]
theorem setTo_step (e x : List UInt8) (k : Nat) : setTo e x k ++ [timesL (powL e k) x] = setTo e x (k + 1) := by simp [setTo, List.range_succ]

theorem l12Set_any (e x : List UInt8) (w : World) (he : IsRow e) (hx : IsRow x) (hl : e.length = x.length) :
    Calls Try.prog 73 #[.string (bs e), .string (bs x)] w (OneS w (sortL (setTo e x (ordL e)))) := by
  have h8 := he.hi
  have hp := ord_pos he
  have hle := ord_le he
  have HE := hid he
  have HX := hid hx
  have HL := hid hl
  clear he hx hl
  go_enter Try.func73, Try.ntmps73
  go_wp2_with (first
    | (go_at_call 94; refine (l1Rounds_any e.length _ h8).mono ?_; rintro e w' ⟨rfl, rfl⟩)
    | (go_at_call 98; refine (l1Order_any e _ HE.out).mono ?_; rintro e w' ⟨rfl, rfl⟩))
  go_loopg [5, 6, 7] (ordL e) (fun gk u v z wr => ∃ k : Nat, k ≤ ordL e ∧ gk = ordL e - k ∧ wr.ownsRow w.heap.size 9 1 u k (strV (setTo e x k)) ∧ v = .string (bs (powL e k)) ∧ z = .int .i64 ((ordL e - k : Nat) : Int) ∧ Below w.heap.size w wr)
  case atStart => exact ⟨0, by omega, by omega, World.ownsRow_nil _ _ _ _, rfl, rfl, Below.refl _ _⟩
  case round =>
    obtain ⟨k, hk, rfl, ho, rfl, rfl, hbe⟩ := hrel
    have hP := hid (pow_row HE.out k)
    have hPl := hid (pow_len e k)
    have HO := hid ho
    have HBE := hid hbe
    have HBs := hbe.size
    clear ho hbe
    by_cases hlt : k < ordL e
    · have hps := hid (setTo_step e x k)
      have i0 : (0 : Int) < ((ordL e - k : Nat) : Int) := by omega
      obtain ⟨X, hXe⟩ : ∃ X, X = powL e k := ⟨_, rfl⟩
      have hst := hid (show timesL X e = powL e (k + 1) by rw [hXe]; rfl)
      rw [← hXe] at hP hPl hps ⊢
      have hPX := hid (show X.length = x.length by rw [hPl.out, HL.out])
      clear hXe
      go_wp2_with fail
      refine (l1Times_any X x _ hP.out HX.out hPX.out).mono ?_
      rintro e' w' ⟨rfl, rfl⟩
      go_wp2_with (at_builtin; refine app_str _ (by rfl) _ _ (by rfl) w.heap.size _ _ _ (by rfl) (HO.out.alloc _) (some ⟨wr.heap.size, 0, none⟩) 1 1 [timesL X x] (by rfl) (Rd.blk _ [.string (bs (timesL X x))] _) (by omega) (by simp; omega) ?_; intro v5 w5 o5 g5)
      refine (l1Times_any X e _ hP.out HE.out hPl.out).mono ?_
      rintro e' w' ⟨rfl, rfl⟩
      go_wp2_with fail
      go_roundg (ordL e - (k + 1))
      case measure => omega
      case rel =>
        rw [hps.out] at o5
        exact ⟨k + 1, by omega, rfl, o5, by rw [hst.out], by congr 1; omega, (HBE.out.alloc (by omega) _).grown g5 (by simp; omega) fun q hq => (HO.out.lt q hq).1⟩
    · obtain rfl : k = ordL e := by omega
      rw [Nat.sub_self]
      obtain ⟨A1, c1, rfl, _, _, rd1, _⟩ := own_shape HO.out
      have HR1 := hid rd1
      clear rd1
      go_wp2_with fail
      refine (l6Sort_any _ A1 c1 _ _ HR1.out (by omega)).mono ?_
      rintro e' w1 ⟨v1, rfl, o1, b1⟩
      obtain ⟨A2, c2, rfl, _⟩ := own_shape o1
      go_wp2_with fail
      go_ret
      exact ⟨_, rfl, own_mono o1 HBs, HBE.out.trans (b1.mono HBs)⟩

theorem partSet_any (e x : List UInt8) (w : World) (he : IsRow e) (hx : IsRow x) (hl : e.length = x.length) :
    Calls Try.prog 76 #[.string (bs e), .string (bs x)] w (OneS w (sortL (setTo e x (ordL e)))) := by
  have h8 := he.hi
  have hp := ord_pos he
  have hle := ord_le he
  have HE := hid he
  have HX := hid hx
  have HL := hid hl
  clear he hx hl
  go_enter Try.func76, Try.ntmps76
  go_wp2_with fail
  refine (powers_any e _ HE.out).mono ?_
  rintro e' w1 ⟨v1, rfl, o1, b1⟩
  obtain ⟨A1, c1, rfl, _, _, rd1, fr1⟩ := own_shape o1
  have ow0 := own_below (own_of_blk (base := w.heap.size) (Blk.new w 9 #[]) (Nat.le_refl _) (by simp [maxLen])) b1
  have HBW : Below w.heap.size w w1 := ((Below.refl _ _).alloc (Nat.le_refl _) _).trans (b1.mono (by simp))
  rw [powersTo_len] at rd1 ⊢
  have hfr := hid (show ∀ b o, A1 = some ⟨b, o, none⟩ → w.heap.size < b ∧ b < w1.heap.size from fun b o h => by have := fr1 b o none h; simp at this; omega)
  have HR1 := hid rd1
  have HOW := hid ow0
  have HBW1 := hid HBW
  have HB1s := HBW.size
  clear rd1 b1 o1 fr1 ow0 HBW
  go_wp2
  go_loopg [5, 12] (ordL e) (fun gk u z wr => ∃ k : Nat, k ≤ ordL e ∧ gk = ordL e - k ∧ z = .int .i64 k ∧ wr.ownsRow w.heap.size 9 1 u k (strV (setTo e x k)) ∧ Hid (∀ q, u.ownBlock = some q → q = w.heap.size ∨ w1.heap.size ≤ q) ∧ Below w.heap.size w wr ∧ Rd wr A1 (ordL e) (strV (powersTo e (ordL e))) ∧ w1.heap.size ≤ wr.heap.size)
  case atStart => exact ⟨0, by omega, by omega, rfl, HOW.out, hid (fun q h => by simp [Value.ownBlock] at h; exact .inl h.symm), HBW1.out, HR1.out, Nat.le_refl _⟩
  case round =>
    obtain ⟨k, hk, rfl, rfl, ho, hq, hbe, hrd, hsz⟩ := hrel
    by_cases hlt : k < ordL e
    · obtain ⟨b, o, rfl, hj', hc⟩ := hrd.str hlt
      have hat : (powersTo e (ordL e))[k] = powL e k := by
        have := powersTo_at e (ordL e) k hlt
        rw [List.getElem?_eq_getElem hj'] at this
        injection this
      rw [hat] at hc
      have hps := hid (setTo_step e x k)
      have hP := hid (pow_row HE.out k)
      have hPX := hid (show (powL e k).length = x.length by rw [pow_len, HL.out])
      obtain ⟨X, hXe⟩ : ∃ X, X = powL e k := ⟨_, rfl⟩
      rw [← hXe] at hP hPX hps hc
      have i0 : (0 : Int) ≤ (k : Int) := by omega
      have i1 : (k : Int) < (ordL e : Int) := by omega
      have HO := hid ho
      have HBE := hid hbe
      have HBs := hbe.size
      have HRD := hid hrd
      clear hXe hat ho hbe hrd
      go_wp2_with fail
      refine (times_any X x _ hP.out HX.out hPX.out).mono ?_
      rintro e' w2 ⟨rfl, b2⟩
      have HO2 := hid (own_below HO.out b2)
      have HB2 := hid (HBE.out.trans (b2.mono HBs))
      have HRD2 := hid (HRD.out.below b2)
      have hs2 := b2.size
      clear b2
      go_wp2_with (at_builtin; refine app_strB _ (by rfl) _ _ (by rfl) w.heap.size _ _ _ (by rfl) (HO2.out.alloc _) (some ⟨w2.heap.size, 0, none⟩) 1 1 [timesL X x] (by rfl) (Rd.blk _ [.string (bs (timesL X x))] _) (by omega) (by simp; omega) ?_; intro v5 w5 o5 g5 q5)
      go_roundg (ordL e - (k + 1))
      case measure => omega
      case rel =>
        rw [hps.out] at o5
        refine ⟨k + 1, by omega, rfl, by go_num, o5, hid fun q h => ?_, (HB2.out.alloc (by omega) _).grown g5 (by simp; omega) fun q hq => (HO2.out.lt q hq).1, ((HRD2.out.alloc _).grown g5 fun b' o' hA hq2 => ?_), Nat.le_trans (by simp; omega) g5.size⟩
        · rcases q5 with h5 | h5
          · exact hq.out q (by rw [← h5]; exact h)
          · rw [h5] at h
            injection h with h
            simp at h
            exact .inr (by omega)
        · have h6 := hfr.out b' o' hA
          rcases hq.out b' hq2 with h7 | h7 <;> omega
    · obtain rfl : k = ordL e := by omega
      have HBE := hid hbe
      have HBs := hbe.size
      have HO := hid ho
      clear ho hbe hrd
      go_wp2_with fail
      refine (sort_own _ _ _ _ _ HO.out (by omega)).mono ?_
      rintro e' w3 ⟨rfl, o3, g3⟩
      have B3 := hid (HBE.out.grown g3 HBs fun q hq => (HO.out.lt q hq).1)
      have O3 := hid o3
      obtain ⟨A3, c3, rfl, _⟩ := own_shape o3
      clear g3 o3
      go_wp2_with fail
      go_ret
      exact ⟨_, rfl, by rw [sortL_len, setTo_len]; exact O3.out, B3.out⟩
end Go.Proofs.Ytecplhpioohhmaa
