/- Contract of the program's false lead heads in increasing order. No conditions beyond those stated. -/
import Derived.Test.YtiajeheonoebnaaExpF
import Derived.Test.YtiajeheonoebnaaDedP
import Derived.Test.YtiajeheonoebnaaShSort
import Derived.Maps.RangeWalk
import Derived.Sort.MapsRangeIn
set_option linter.unusedVariables false
set_option linter.unusedSimpArgs false
set_option maxRecDepth 100000
namespace Go.Proofs.Ytiajeheonoebnaa
open Go.RowKit Go.Maps

/-- The map's range under way: what is done, what is left. -/
def Ranging (wr : World) (g r q : Nat) (acc : List (List UInt8)) (left : Lit → Bool) (cnt : Nat) : Prop := wr.ranges Try.prog 9 (plainElem (H := Unit) Try.prog 4) g r q (setD acc) left cnt
theorem setD_has (acc : List (List UInt8)) (s : List UInt8) : Maps.has (setD acc) (.string s) = memB s acc := by
  unfold setD
  rw [has_setOf _ _ _ (fun x hx => by simp only [List.mem_map] at hx; obtain ⟨y, _, rfl⟩ := hx; exact True.intro)]
  unfold memB
  rw [Bool.eq_iff_iff]
  simp only [List.any_eq_true, List.mem_map, decide_eq_true_eq]
  constructor
  · rintro ⟨x, ⟨y, hy, rfl⟩, h⟩
    have := (WideAt.sameKey_iff (a := .string y) (b := .string s) True.intro).1 h
    injection this with this
    rw [← this]; exact hy
  · intro h
    exact ⟨_, ⟨s, h, rfl⟩, WideAt.sameKey_self True.intro⟩
theorem key_of {x : List UInt8} {kl : Lit} (h : keyOf Try.prog 9 (.string (bs x)) = some kl) : kl = .string x := by
  simp [keyOf, Try.underlying9, mapKey] at h
  rw [← h.2]; rfl
theorem inv_key (key : Value) (kl : Lit) (h : keyOf Try.prog 9 key = some kl) : ∃ x : List UInt8, key = .string (bs x) := by
  obtain ⟨s, rfl⟩ := Maps.keyOf_string_inv Try.underlying9 h
  obtain ⟨l, rfl⟩ := bs_surj s
  exact ⟨l, rfl⟩
theorem inv_val (v : Value) (y : DataW Unit × List MemPlace) (h : plainElem Try.prog 4 v = some y) : ∃ c : Value, v = c := ⟨v, rfl⟩
/-- What is done and what is left of a set. -/
def SetStep (acc done : List (List UInt8)) (left : Lit → Bool) : Prop := done.Nodup ∧ (∀ s, s ∈ done ↔ (s ∈ acc ∧ left (.string s) = false)) ∧ ∀ s, left (.string s) = true → s ∈ acc
theorem setStep_zero (acc : List (List UInt8)) : SetStep acc [] (Maps.has (setD acc)) := by
  refine ⟨by simp, fun s => ?_, fun s h => ?_⟩
  · rw [setD_has]
    constructor
    · intro h; cases h
    · rintro ⟨h1, h2⟩; exact absurd h1 (memB_not.1 h2)
  · rw [setD_has] at h; exact memB_iff.1 h
theorem setStep_succ {acc done : List (List UInt8)} {left : Lit → Bool} {x : List UInt8} {kl : Lit} (h : SetStep acc done left) (hk : kl = .string x) (hl : left kl = true) : SetStep acc (done ++ [x]) (fun z => left z && !z.sameKey kl) := by
  subst hk
  obtain ⟨h1, h2, h3⟩ := h
  have hx : x ∉ done := fun hd => by have := ((h2 x).1 hd).2; rw [hl] at this; cases this
  have hsk : ∀ s : List UInt8, (Lit.string s).sameKey (.string x) = true ↔ s = x := fun s => by
    rw [WideAt.sameKey_iff (a := .string s) (b := .string x) True.intro]
    constructor
    · intro e; injection e
    · intro e; rw [e]
  refine ⟨?_, fun s => ?_, fun s hs => ?_⟩
  · rw [List.nodup_append]
    exact ⟨h1, by simp, fun a ha b hb => by simp at hb; subst hb; intro e; subst e; exact hx ha⟩
  · rw [List.mem_append, List.mem_singleton, h2]
    by_cases e : s = x
    · subst e
      have := (hsk s).2 rfl
      simp [this, h3 s hl]
    · have h4 : (Lit.string s).sameKey (.string x) = false := by
        cases hc : (Lit.string s).sameKey (.string x)
        · rfl
        · exact absurd ((hsk s).1 hc) e
      simp [h4, e]
  · simp only [Bool.and_eq_true] at hs
    exact h3 s hs.1
theorem setStep_end {acc done : List (List UInt8)} {left : Lit → Bool} (h : SetStep acc done left) (hl : ∀ kl, left kl = false) : sortL done = setL acc :=
  sort_set h.1 fun x => by rw [h.2.1]; simp [hl]
set_option maxHeartbeats 2000000 in
theorem falseHeads_any (N : Nat) (nm : List UInt8) (ca : List (List UInt8)) (A : Option Addr) (n c : Nat) (w : World) (lo : 3 ≤ N) (hi : N ≤ 8) (hra : Rd w A n (strV ca)) (hn : n ≤ 1000) (hsa : ∀ x ∈ ca, okChange (N : Int) x = true) :
    Calls Try.prog 79 #[.agg #[.string (bs nm), .int .i64 N, .slice A n c]] w (OneS w (setL (quotL (leadL (roundsL N) ca) (leadL (roundsL N) ca)))) := by
  have HF := fun (w0 : World) (rd : Rd w0 A n (strV ca)) => hid (falseSet_any N nm nm ca ca A A n c n c w0 lo hi rd rd hn hn hsa hsa)
  have RA := hid hra
  clear hra hsa
  generalize quotL (leadL (roundsL N) ca) (leadL (roundsL N) ca) = acc at *
  go_enter Try.func79, Try.ntmps79
  go_wp2_with fail
  obtain ⟨B2, hsz, HC⟩ := box_mk1 28 w nm (N : Int) (.slice A n c)
  have R2 := hid (RA.out.below B2)
  have HB2 := hid B2
  have hw2 := B2.size
  have HSZ := hid hsz
  generalize (w.alloc (.cells #[.string (bs nm), .int .i64 (N : Int), .slice A n c] 28)) = W2 at *
  clear hsz HC B2
  have HB3 := hid ((Below.refl W2.heap.size W2).alloc (Nat.le_refl _) (.cells #[] 9))
  have O3 := hid (own_of_blk (Blk.new W2 9 #[]) (Nat.le_refl _) (by simp [maxLen]))
  refine (HF _ (R2.out.below HB3.out)).out.mono ?_
  rintro e w1 ⟨g, q, rfl, hq, hS, hg, b1⟩
  have HB1 := hid (HB3.out.trans (b1.mono HB3.out.size))
  have O1 := hid (own_below O3.out b1)
  have HS := hid hS
  have hgl := hS.lt
  have hg3 := hg
  have hsz3 : (W2.alloc (.cells #[] 9)).heap.size = W2.heap.size + 1 := by simp
  rw [hsz3] at hg3
  clear b1 hS hg hsz3
  have HB1s := HB1.out.size
  go_wp2_with (at_range; refine wpList_range_own _ rfl _ 68 rfl 9 4 (string_keyed Try.underlying9) Try.underlying68 (plainElem (H := Unit) Try.prog 4) g q (setD acc) rfl HS.out ?_; intro w4 hrg4 hg4 hs4)
  have HB4 := hid (HB1.out.grown hg4 HB1.out.size (fun j hj => by cases hj))
  have HS0 := hid (setStep_zero acc)
  have O4 := hid (own_below O1.out ((Below.refl w1.heap.size w1).grown hg4 (Nat.le_refl _) (fun j hj => by cases hj)))
  have HRG := hid (show Ranging w4 g w1.heap.size q acc (Maps.has (setD acc)) (Maps.size (setD acc)) from hrg4)
  have hsz4 := World.ownsMap.size_le HS.out
  clear hrg4 hg4
  go_frame
  go_loopg [3] (Maps.size (setD acc)) (fun gk u wr => ∃ (done : List (List UInt8)) (left : Lit → Bool), Ranging wr g w1.heap.size q acc left gk ∧ wr.ownsRow W2.heap.size 9 1 u done.length (strV done) ∧ Hid (∀ j, u.ownBlock = some j → j ≠ g ∧ j ≠ w1.heap.size) ∧ Hid (SetStep acc done left) ∧ done.length + gk ≤ q ∧ Below W2.heap.size W2 wr)
  case atStart =>
    rw [← HSZ.out]
    exact ⟨[], _, HRG.out, O4.out, hid (fun j hj => by injection hj with hj; have hj2 : W2.heap.size = j := hj; omega), HS0, by simpa using hsz4, HB4.out⟩
  case round =>
    obtain ⟨done, left, hR, ho, hu, hst, hln, hb⟩ := hrel
    have HO := hid ho
    have HB := hid hb
    have HR := hid hR
    have hbs := hb.size
    clear ho hb hR
    go_wp2_with (at_next; refine wpList_next_ranges _ rfl _ rfl 9 (string_keyed Try.underlying9) (plainElem (H := Unit) Try.prog 4) (fun s : List UInt8 => Value.string (bs s)) (fun b : Value => b) inv_key inv_val g w1.heap.size q (setD acc) left gk rfl HR.out ?_ ?_)
    · intro hc0 hl0
      have HE := hid (setStep_end hst.out hl0)
      go_wp2_with fail
      refine (sort_own W2.heap.size done.length _ done _ HO.out (by omega)).mono ?_
      rintro e w6 ⟨rfl, o6, g6⟩
      have HB6 := hid (HB.out.grown g6 hbs (fun j hj => (HO.out.lt j hj).1))
      rw [HE.out] at o6
      have O6 := hid o6
      clear o6 g6
      go_wp2
      go_ret
      exact ⟨_, rfl, by rw [← HE.out, sortL_len, HE.out]; exact own_mono O6.out hw2, HB2.out.trans (HB6.out.mono hw2)⟩
    · intro x c kl y y2 w5 cnt' hkx hlx hyx hat hrg' hlt' hg' hs' hen
      have HST := hid (setStep_succ hst.out (key_of hkx) hlx)
      have HRG5 := hid (show Ranging w5 g w1.heap.size q acc (fun z => left z && !z.sameKey kl) cnt' from hrg')
      have HO5 := hid (own_other HO.out hg' (fun j hj e => by injection e with e; exact (hu.out j hj).2 e.symm))
      have HB5 := hid (HB.out.grown hg' hbs (fun j hj => by injection hj with hj; omega))
      have hgl5 := hid (World.ranges.lt hrg')
      have hgo5 := hid (World.ownsMap.lt (World.ranges.owns hrg'))
      have hbs5 := HB5.out.size
      have hlim : done.length + 1 ≤ 1000000000000 := by omega
      have HS5 := hid hs'
      clear hkx hyx hat hrg' hg' hlx hs'
      go_wp2_with (at_builtin; refine app_strB _ (by rfl) _ _ (by rfl) W2.heap.size _ _ _ (by rfl) (HO5.out.alloc _) (some ⟨w5.heap.size, 0, none⟩) 1 1 [x] (by rfl) (Rd.blk _ [.string (bs x)] _) hlim (by simp; omega) ?_; intro v7 w7 o7 g7 k7)
      go_roundg cnt'
      case measure => omega
      case rel =>
        have hne : ∀ j, v7.ownBlock = some j → j ≠ g ∧ j ≠ w1.heap.size := fun j hj => by
          rcases k7 with k | k
          · exact hu.out j (k ▸ hj)
          · rw [k] at hj
            injection hj with hj
            have h1 := hgl5.out
            have h2 := hgo5.out
            simp only [alloc_size] at hj
            omega
        refine ⟨done ++ [x], _, ?_, by rw [List.length_append]; exact o7, hid hne, HST, by rw [List.length_append]; simp; omega, (HB5.out.alloc hbs5 _).grown g7 (by simp; omega) fun j hj => (HO5.out.lt j hj).1⟩
        exact World.ranges.kept (World.ranges.alloc HRG5.out _) g7 (fun e => (hu.out _ e.symm).1 rfl) (fun e => (hu.out _ e.symm).2 rfl)
end Go.Proofs.Ytiajeheonoebnaa
