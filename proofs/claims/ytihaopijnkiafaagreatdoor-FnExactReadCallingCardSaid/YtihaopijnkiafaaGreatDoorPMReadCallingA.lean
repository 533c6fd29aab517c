/- Contract of the program's reading of a calling. No conditions beyond those stated. -/
import Derived.Test.YtihaopijnkiafaaGreatDoorRdD
import Derived.Test.YtihaopijnkiafaaGreatDoorExpCal
import Derived.Test.YtihaopijnkiafaaGreatDoorEndS
import Derived.Test.YtihaopijnkiafaaGreatDoorShelf
import Derived.Test.YtihaopijnkiafaaGreatDoorBase
import Derived.Test.YtihaopijnkiafaaGreatDoorRdU
set_option linter.unusedVariables false
set_option linter.unusedSimpArgs false
set_option maxRecDepth 100000
namespace Go.Proofs.YtihaopijnkiafaaGreatDoor
open Go.RowKit

theorem readF_rng (s : List UInt8) : -1 ≤ readF s ∧ readF s < 1000000 := by
  unfold readF
  split
  · rename_i h
    simp only [Bool.and_eq_true] at h
    have h1 := h.1
    unfold lenB at h1
    simp at h1
    have := numV_lt (s := s) s.length (Nat.le_refl _) (by rw [List.take_length]; exact h.2)
    rw [List.take_length] at this
    have h6 : 10 ^ s.length ≤ 10 ^ 6 := Nat.pow_le_pow_right (by decide) (by omega)
    omega
  · omega
theorem segsS_len (b : UInt8) (s : List UInt8) : 1 ≤ (segsS b s).length ∧ (segsS b s).length ≤ s.length + 1 := by
  have := (segSt_le b s s.length).2
  unfold segsS
  simp; omega
theorem drop_len {b : UInt8} {s x : List UInt8} (h : x ∈ segsS b s) : x.length ≤ s.length := by
  have H : ∀ i, ∀ x ∈ (segSt b s i).2, x.length ≤ s.length := by
    intro i
    induction i with
    | zero => simp [segSt]
    | succ i ih =>
      by_cases hc : s.getD i 0 = b
      · rw [segSt_y hc]
        intro x hx
        simp only [List.mem_append, List.mem_singleton] at hx
        rcases hx with hx | rfl
        · exact ih x hx
        · simp; omega
      · rw [segSt_n hc]; exact ih
  unfold segsS at h
  simp only [List.mem_append, List.mem_singleton] at h
  rcases h with h | rfl
  · exact H _ x h
  · simp
/-- What the reading of a word ends with. -/
def WordE (R : Option (List UInt8)) (e : Ending) : Prop := ∃ x ok, e = .returned (.tuple #[.string (bs x), .bool ok]) ∧ R = if ok = true then some x else none
section
variable {N : Nat} {ch : List (List UInt8)} {k : List UInt8 × List UInt8} {bell : Int}
theorem wordS_short {fr wd : List UInt8} (h : wd.length < 2) : wordS N ch k bell fr wd = none := by unfold wordS; rw [if_pos (by simp [h])]
theorem wordS_no {fr r : List UInt8} {c : UInt8} (h : isCallL [c] = false) : wordS N ch k bell fr (c :: r) = none := by unfold wordS; rw [if_pos (by simp [h])]
theorem wordS_p {fr r : List UInt8} (hr : 1 ≤ r.length) : wordS N ch k bell fr (112 :: r) = if 0 < readF r then some (List.replicate (min (readF r).toNat 61) 112) else none := by
  unfold wordS
  rw [show List.take 1 (112 :: r) = [112] from rfl, show List.drop 1 ((112 : UInt8) :: r) = r from rfl, if_neg (by simp [isCallL]; omega), if_pos rfl]
theorem wordS_c {fr r : List UInt8} {c : UInt8} (hr : 1 ≤ r.length) (h : isCallL [c] = true) (hp : c ≠ 112) : wordS N ch k bell fr (c :: r) = loopS N ch k bell [c] (readF ((segsS 43 r).getD 0 [])) 60 [] fr (if (segsS 43 r).length = 2 then readF ((segsS 43 r).getD 1 []) else 0) := by
  unfold wordS
  rw [show List.take 1 (c :: r) = [c] from rfl, show List.drop 1 (c :: r) = r from rfl, if_neg (by rw [h]; simp; omega), if_neg (by simpa using hp)]
theorem loopS_hit {call out fr : List UInt8} {n : Int} {f : Nat} (h : (placeL (timesL fr (callHeadL N ch k call)) bell : Int) = n) : loopS N ch k bell call n (f + 1) out fr 0 = some (out ++ call) := by rw [loopS, if_pos h, if_pos rfl]
theorem loopS_less {call out fr : List UInt8} {n sk : Int} {f : Nat} (h : (placeL (timesL fr (callHeadL N ch k call)) bell : Int) = n) (h0 : sk ≠ 0) : loopS N ch k bell call n (f + 1) out fr sk = loopS N ch k bell call n f (out ++ [112]) (timesL fr (callHeadL N ch k [112])) (sk - 1) := by rw [loopS, if_pos h, if_neg h0]
theorem loopS_miss {call out fr : List UInt8} {n sk : Int} {f : Nat} (h : ¬ (placeL (timesL fr (callHeadL N ch k call)) bell : Int) = n) : loopS N ch k bell call n (f + 1) out fr sk = loopS N ch k bell call n f (out ++ [112]) (timesL fr (callHeadL N ch k [112])) sk := by rw [loopS, if_neg h]
theorem loopS_end {call out fr : List UInt8} {n sk : Int} : loopS N ch k bell call n 0 out fr sk = none := rfl
end
set_option maxHeartbeats 1000000 in
theorem word_short (N : Nat) (nm fr wd : List UInt8) (bell : Int) (ch : List (List UInt8)) (k : List UInt8 × List UInt8) (A : Option Addr) (n c : Nat) (w : World) (h2 : wd.length < 2) :
    Calls Tryz.prog 15 #[.agg #[.string (bs nm), .int .i64 N, .slice A n c], .agg #[.string (bs k.1), .string (bs k.2)], .string (bs fr), .string (bs wd), .int .i64 bell] w fun e w' => WordE (wordS N ch k bell fr wd) e ∧ Below w.heap.size w w' := by
  have HR := hid (wordS_short (N := N) (ch := ch) (k := k) (bell := bell) (fr := fr) h2)
  have h2i : (wd.length : Int) < 2 := by omega
  obtain ⟨k1, k2⟩ := k
  dsimp only at *
  go_enter Tryz.func15, Tryz.ntmps15
  go_wp2
  go_ret2
  exact ⟨⟨[], false, rfl, by rw [HR.out]; rfl⟩, (box_mk w nm k1 k2 (N : Int) (.slice A n c)).1⟩
set_option maxHeartbeats 1000000 in
theorem word_no (N : Nat) (nm fr r : List UInt8) (b : UInt8) (bell : Int) (ch : List (List UInt8)) (k : List UInt8 × List UInt8) (A : Option Addr) (n c : Nat) (w : World) (hr : 1 ≤ r.length) (hc : isCallL [b] = false) :
    Calls Tryz.prog 15 #[.agg #[.string (bs nm), .int .i64 N, .slice A n c], .agg #[.string (bs k.1), .string (bs k.2)], .string (bs fr), .string (bs (b :: r)), .int .i64 bell] w fun e w' => WordE (wordS N ch k bell fr (b :: r)) e ∧ Below w.heap.size w w' := by
  have HR := hid (wordS_no (N := N) (ch := ch) (k := k) (bell := bell) (fr := fr) (r := r) hc)
  have GC := hid (fun (w0 : World) => l8Call_any [b] w0)
  rw [hc] at GC
  have h2i : ¬ ((r.length : Int) + 1 < 2) := by omega
  have h2j : (1 : Int) ≤ (r.length : Int) + 1 := by omega
  clear hc
  obtain ⟨k1, k2⟩ := k
  dsimp only at *
  go_enter Tryz.func15, Tryz.ntmps15
  go_wp2_with fail
  refine (GC.out _).mono ?_
  rintro e w1 ⟨rfl, rfl⟩
  go_wp2
  go_ret2
  exact ⟨⟨[], false, rfl, by rw [HR.out]; rfl⟩, (box_mk w nm k1 k2 (N : Int) (.slice A n c)).1⟩
set_option maxHeartbeats 1000000 in
theorem word_p (N : Nat) (nm fr r : List UInt8) (bell : Int) (ch : List (List UInt8)) (k : List UInt8 × List UInt8) (A : Option Addr) (n c : Nat) (w : World) (hr : 1 ≤ r.length) (hr2 : r.length ≤ 1000) :
    Calls Tryz.prog 15 #[.agg #[.string (bs nm), .int .i64 N, .slice A n c], .agg #[.string (bs k.1), .string (bs k.2)], .string (bs fr), .string (bs (112 :: r)), .int .i64 bell] w fun e w' => WordE (wordS N ch k bell fr (112 :: r)) e ∧ Below w.heap.size w w' := by
  have HR := hid (wordS_p (N := N) (ch := ch) (k := k) (bell := bell) (fr := fr) hr)
  have GC := hid (fun (w0 : World) => l8Call_any [112] w0)
  rw [show isCallL [112] = true from rfl] at GC
  have GR1 := hid (fun (w0 : World) => l1Read_any r w0 (by omega))
  have h2i : ¬ ((r.length : Int) + 1 < 2) := by omega
  have h2j : (1 : Int) ≤ (r.length : Int) + 1 := by omega
  obtain ⟨q1, q2⟩ := readF_rng r
  generalize readF r = n0 at *
  obtain ⟨k1, k2⟩ := k
  dsimp only at *
  go_enter Tryz.func15, Tryz.ntmps15
  go_wp2_with fail
  refine (GC.out _).mono ?_
  rintro e w1 ⟨rfl, rfl⟩
  go_wp2_with fail
  refine (GR1.out _).mono ?_
  rintro e w1 ⟨rfl, rfl⟩
  have HB := hid (box_mk w nm k1 k2 (N : Int) (.slice A n c)).1
  generalize ((w.alloc (.cells #[.string (bs nm), .int .i64 (N : Int), .slice A n c] 31)).alloc (.cells #[.string (bs k1), .string (bs k2)] 33)) = W2 at *
  obtain ⟨m, hm⟩ : ∃ m, m = min n0.toNat 61 := ⟨_, rfl⟩
  have HM1 := hid (show ∀ i : Nat, i < m → (i : Int) < n0 ∧ (i : Int) ≤ 60 from fun i h => by omega)
  have HM2 := hid (show ¬ ((m : Int) < n0 ∧ (m : Int) ≤ 60) by omega)
  rw [← hm] at HR
  have HM := hid hm
  clear hm
  go_wp2
  go_loopg [14, 15] m (fun gk u v wr => ∃ i : Nat, i ≤ m ∧ gk = m - i ∧ u = .string (bs (List.replicate i 112)) ∧ v = .int .i64 (i : Int) ∧ W2 = wr)
  case atStart => exact ⟨0, by omega, by omega, rfl, rfl, rfl⟩
  case round =>
    obtain ⟨i, hi, rfl, rfl, rfl, rfl⟩ := hrel
    by_cases hlt : i < m
    · obtain ⟨c1, c2⟩ := HM1.out i hlt
      have H1 := hid (List.replicate_succ' (n := i) (a := (112 : UInt8)))
      go_wp2
      go_roundg (m - (i + 1))
      case measure => omega
      case rel => exact ⟨i + 1, by omega, rfl, by rw [H1.out], by go_num, rfl⟩
    · obtain rfl : i = m := by omega
      have h3 := HM2.out
      by_cases h4 : (i : Int) < n0
      · have h5 : ¬ (i : Int) ≤ 60 := fun h => h3 ⟨h4, h⟩
        have h6 : (0 : Int) < n0 := by omega
        clear h3
        go_wp2
        go_ret2
        exact ⟨⟨_, true, rfl, by rw [HR.out, if_pos h6]; rfl⟩, HB.out⟩
      · clear h3
        by_cases h6 : (0 : Int) < n0
        · go_wp2
          go_ret2
          exact ⟨⟨_, true, rfl, by rw [HR.out, if_pos h6]; rfl⟩, HB.out⟩
        · go_wp2
          go_ret2
          exact ⟨⟨_, false, rfl, by rw [HR.out, if_neg (by omega)]; rfl⟩, HB.out⟩
set_option maxHeartbeats 4000000 in
theorem word_c (N : Nat) (nm fr r : List UInt8) (d : UInt8) (bell : Int) (ch : List (List UInt8)) (k : List UInt8 × List UInt8) (A : Option Addr) (n c : Nat) (w : World) (lo : 3 ≤ N) (hi : N ≤ 8) (hrd : Rd w A n (strV ch)) (hn : n ≤ 1048576) (hcap : n ≤ c) (l1 : 1 ≤ ch.length) (hs : ∀ x ∈ ch, okChange (N : Int) x = true) (hb1 : okChange (N : Int) k.1 = true) (hb2 : okChange (N : Int) k.2 = true) (hf : IsRow fr) (hfl : fr.length = N) (hr : 1 ≤ r.length) (hr2 : r.length ≤ 1000) (hcl : isCallL [d] = true) (hd : d ≠ 112) :
    Calls Tryz.prog 15 #[.agg #[.string (bs nm), .int .i64 N, .slice A n c], .agg #[.string (bs k.1), .string (bs k.2)], .string (bs fr), .string (bs (d :: r)), .int .i64 bell] w fun e w' => WordE (wordS N ch k bell fr (d :: r)) e ∧ Below w.heap.size w w' := by
  have GC := hid (fun (w0 : World) => l8Call_any [d] w0)
  rw [hcl] at GC
  have GR := hid (fun (x : List UInt8) (w0 : World) (h : x.length ≤ 1048576) => l1Read_any x w0 h)
  have GS := hid (fun (w0 : World) => (show Calls Tryz.prog 14 #[.string (bs r), .int .u8 43] w0 (OneSn w0 (segsS 43 r).length (segsS 43 r)) from l1Split_any r 43 w0 (by omega)))
  have GP := fun (call f0 : List UInt8) (w0 : World) (rd : Rd w0 A n (strV ch)) (h1 : IsRow f0) (h2 : f0.length = N) => hid (l10Place_any N nm f0 call bell ch k A n c w0 lo hi rd hn hcap l1 hs hb1 hb2 h1 h2)
  have GH := fun (w0 : World) (rd : Rd w0 A n (strV ch)) => hid (l8Head_any N nm [112] ch k A n c w0 lo hi rd hn hcap l1 hs hb1 hb2)
  have hpr := callHeadL_row lo hi ch k [112]
  have hpl := callHeadL_len N ch k [112]
  have GT := fun (f0 : List UInt8) (w0 : World) (h1 : IsRow f0) (h2 : f0.length = N) => hid (l1Times_any f0 (callHeadL N ch k [112]) w0 h1 hpr (by rw [h2, hpl]))
  have RS0 := hid hrd
  have HF := hid (show IsRow fr ∧ fr.length = N from ⟨hf, hfl⟩)
  have HX := hid (fun (f0 : List UInt8) (h1 : IsRow f0 ∧ f0.length = N) => (show IsRow (timesL f0 (callHeadL N ch k [112])) ∧ (timesL f0 (callHeadL N ch k [112])).length = N from ⟨times_row h1.1 hpr (by rw [h1.2, hpl]), by rw [times_len, hpl]⟩))
  have HRR := hid (wordS_c (N := N) (ch := ch) (k := k) (bell := bell) (fr := fr) hr hcl hd)
  have h2i : ¬ ((r.length : Int) + 1 < 2) := by omega
  have h2j : (1 : Int) ≤ (r.length : Int) + 1 := by omega
  have hdb : (([d] : List UInt8) == [112]) = false := by simpa using hd
  obtain ⟨g1, g2⟩ := segsS_len 43 r
  have HD := hid (fun x (h : x ∈ segsS 43 r) => drop_len h)
  obtain ⟨SG, hSG⟩ : ∃ S, S = segsS 43 r := ⟨_, rfl⟩
  rw [← hSG] at GS HRR g1 g2 HD
  have hq0 : 0 < SG.length := by omega
  have HR0 := hid (fun (w0 : World) => GR.out SG[0] w0 (by have := HD.out _ (List.getElem_mem hq0); omega))
  have hg0 : SG.getD 0 [] = SG[0] := by simp [List.getD_eq_getElem?_getD, hq0]
  rw [hg0] at HRR
  obtain ⟨q1, q2⟩ := readF_rng SG[0]
  clear hrd hs hb1 hb2 hf hfl hpr hpl hSG hg0 hcl hd
  obtain ⟨k1, k2⟩ := k
  dsimp only at *
  go_enter Tryz.func15, Tryz.ntmps15
  go_wp2_with fail
  refine (GC.out _).mono ?_
  rintro e w1 ⟨rfl, rfl⟩
  go_wp2_with fail
  obtain ⟨B2, hsz, HC⟩ := box_mk w nm k1 k2 (N : Int) (.slice A n c)
  have RS := hid (RS0.out.below B2)
  have HB2 := hid B2
  have hw2 := B2.size
  generalize ((w.alloc (.cells #[.string (bs nm), .int .i64 (N : Int), .slice A n c] 31)).alloc (.cells #[.string (bs k1), .string (bs k2)] 33)) = W2 at *
  clear B2 hsz RS0
  have HHS5 := hid (fun W' (h : Below W2.heap.size W2 W') => (show W'.cell? ⟨w.heap.size, 0, none⟩ = some (.string (bs nm)) ∧ W'.cell? ⟨w.heap.size, 1, none⟩ = some (.int .i64 (N : Int)) ∧ W'.cell? ⟨w.heap.size, 2, none⟩ = some (.slice A n c) ∧ W'.cell? ⟨w.heap.size + 1, 0, none⟩ = some (.string (bs k1)) ∧ W'.cell? ⟨w.heap.size + 1, 1, none⟩ = some (.string (bs k2)) from by
    obtain ⟨⟨a0, a1, a2⟩, a3, a4⟩ := HC.out _ h
    exact ⟨a0, a1, a2, a3, a4⟩))
  clear HC
  refine (GS.out _).mono ?_
  rintro e w1 ⟨v1, rfl, o1, b1⟩
  have HB1 := hid b1
  obtain ⟨A1, c1, rfl, hc1, _, rd1, y1⟩ := own_shape o1
  obtain ⟨b, o, rfl, hk, hci⟩ := rd1.str hq0
  have HRD := hid rd1
  have hci0 : w1.cell? ⟨b, o, none⟩ = some (.string (bs SG[0])) := hci
  clear o1 b1 y1 rd1 hci
  go_wp2_with fail
  refine (HR0.out _).mono ?_
  rintro e w3 ⟨rfl, rfl⟩
  generalize readF SG[0] = pn at *
  clear hci0 HR0
  by_cases hl2 : SG.length = 2
  · rw [if_pos hl2] at HRR
    have hq1 : 1 < SG.length := by omega
    have HR1 := hid (fun (w0 : World) => GR.out SG[1] w0 (by have := HD.out _ (List.getElem_mem hq1); omega))
    have hg1 : SG.getD 1 [] = SG[1] := by simp [List.getD_eq_getElem?_getD, hq1]
    rw [hg1] at HRR
    have hl2i : (SG.length : Int) = 2 := by omega
    obtain ⟨b', o', he, hk1, hci⟩ := HRD.out.str hq1
    obtain ⟨rfl, rfl⟩ : b = b' ∧ o = o' := by injection he with e; injection e with e1 e2; exact ⟨e1, e2⟩
    obtain ⟨r1, r2⟩ := readF_rng SG[1]
    clear he
    go_wp2_with fail
    refine (HR1.out _).mono ?_
    rintro e w3 ⟨rfl, rfl⟩
    generalize readF SG[1] = sn at *
    clear hci HR1 hg1 hl2 hl2i
    obtain ⟨R, hR⟩ : ∃ R, loopS N ch (k1, k2) bell [d] pn 60 [] fr sn = R := ⟨_, rfl⟩
    rw [hR] at HRR
    have HR := hid hR
    clear hR GR GS HRD HD GC
    go_wp2
    go_loopg [2, 10, 11, 18, 19] 60 (fun gk u r1 r2 v x wr => ∃ (f0 out : List UInt8) (sk : Int), out.length ≤ 60 ∧ gk = 60 - out.length ∧ u = .string (bs f0) ∧ v = .int .i64 sk ∧ x = .string (bs out) ∧ Hid (IsRow f0 ∧ f0.length = N) ∧ (-1 - (out.length : Int) ≤ sk ∧ sk < 1000000) ∧ Hid (loopS N ch (k1, k2) bell [d] pn (60 - out.length) out f0 sk = R) ∧ Below W2.heap.size W2 wr)
    case atStart => exact ⟨fr, [], sn, by simp, by simp, rfl, rfl, rfl, HF, ⟨by simp only [List.length_nil]; omega, by omega⟩, hid (by simpa using HR.out), HB1.out⟩
    case round =>
      obtain ⟨f0, out, sk, ho, rfl, rfl, rfl, rfl, hfx, ⟨hs1, hs2⟩, HL, hb⟩ := hrel
      have HB := hid hb
      have hbs := hb.size
      clear hb
      by_cases hlt : out.length < 60
      · have i1 : (out.length : Int) < 60 := by omega
        obtain ⟨g, hg⟩ : ∃ g, 60 - out.length = g + 1 := ⟨59 - out.length, by omega⟩
        have hg2 : 60 - (out.length + 1) = g := by omega
        rw [hg] at HL
        have HG2 := hid hg2
        clear hg2
        obtain ⟨n0, n1, n2, p0, p1⟩ := HHS5.out _ HB.out
        go_wp2_with fail
        refine (GP [d] f0 _ (RS.out.below HB.out) hfx.out.1 hfx.out.2).out.mono ?_
        rintro e w5 ⟨rfl, b5⟩
        have HB5 := hid (HB.out.trans (b5.mono hbs))
        clear b5 n0 n1 n2 p0 p1
        obtain ⟨n0, n1, n2, p0, p1⟩ := HHS5.out _ HB5.out
        have HH := hid (fun (h : ((placeL (timesL f0 (callHeadL N ch (k1, k2) [d])) bell : Nat) : Int) = pn) => loopS_hit (f := g) (out := out) h)
        have HLs := hid (fun (h : ((placeL (timesL f0 (callHeadL N ch (k1, k2) [d])) bell : Nat) : Int) = pn) (h0 : sk ≠ 0) => loopS_less (f := g) (out := out) h h0)
        have HM := hid (fun (h : ¬ ((placeL (timesL f0 (callHeadL N ch (k1, k2) [d])) bell : Nat) : Int) = pn) => loopS_miss (f := g) (out := out) (sk := sk) h)
        generalize placeL (timesL f0 (callHeadL N ch (k1, k2) [d])) bell = PL at *
        by_cases hpe : (PL : Int) = pn
        · by_cases h0 : sk = 0
          · subst h0
            have HE := hid (HH.out hpe)
            rw [HL.out] at HE
            clear HH HLs HM HL
            go_wp2
            go_ret2
            exact ⟨⟨_, true, rfl, by rw [HRR.out, HE.out]; rfl⟩, HB2.out.trans (HB5.out.mono hw2)⟩
          · have HLL : Hid (loopS N ch (k1, k2) bell [d] pn (60 - (out.length + 1)) (out ++ [112]) (timesL f0 (callHeadL N ch (k1, k2) [112])) (sk - 1) = R) := hid (by rw [HG2.out, ← HL.out, HLs.out hpe h0])
            have hwk : IntKind.i64.wrap (sk - 1) = sk - 1 := IntWalk.i64_in _ (by omega)
            clear HH HLs HM HL HG2
            go_wp2_with fail
            refine (GH _ (RS.out.below HB5.out)).out.mono ?_
            rintro e w6 ⟨rfl, b6⟩
            have HB6 := hid (HB5.out.trans (b6.mono HB5.out.size))
            clear b6 n0 n1 n2 p0 p1
            go_wp2_with fail
            refine (GT f0 _ hfx.out.1 hfx.out.2).out.mono ?_
            rintro e w7 ⟨rfl, rfl⟩
            go_wp2
            go_roundg (60 - (out.length + 1))
            case measure => omega
            case rel => exact ⟨_, out ++ [112], sk - 1, by simp; omega, by simp, rfl, by first | rfl | go_num, by simp, hid (HX.out f0 hfx.out), by rw [List.length_append, List.length_singleton]; omega, by rw [List.length_append, List.length_singleton]; exact HLL, HB6.out⟩
        · have HLL : Hid (loopS N ch (k1, k2) bell [d] pn (60 - (out.length + 1)) (out ++ [112]) (timesL f0 (callHeadL N ch (k1, k2) [112])) sk = R) := hid (by rw [HG2.out, ← HL.out, HM.out hpe])
          clear HH HLs HM HL HG2
          go_wp2_with fail
          refine (GH _ (RS.out.below HB5.out)).out.mono ?_
          rintro e w6 ⟨rfl, b6⟩
          have HB6 := hid (HB5.out.trans (b6.mono HB5.out.size))
          clear b6 n0 n1 n2 p0 p1
          go_wp2_with fail
          refine (GT f0 _ hfx.out.1 hfx.out.2).out.mono ?_
          rintro e w7 ⟨rfl, rfl⟩
          go_wp2
          go_roundg (60 - (out.length + 1))
          case measure => omega
          case rel => exact ⟨_, out ++ [112], sk, by simp; omega, by simp, rfl, by first | rfl | go_num, by simp, hid (HX.out f0 hfx.out), by rw [List.length_append, List.length_singleton]; omega, by rw [List.length_append, List.length_singleton]; exact HLL, HB6.out⟩
      · have h60 : out.length = 60 := by omega
        have i1 : ¬ (out.length : Int) < 60 := by omega
        have HE := hid HL.out
        rw [h60] at HE
        go_wp2
        go_ret2
        exact ⟨⟨[], false, rfl, by rw [HRR.out, ← HE.out]; rfl⟩, HB2.out.trans (HB.out.mono hw2)⟩
  · rw [if_neg hl2] at HRR
    have hl2b : ((SG.length : Int) == 2) = false := by simp; omega
    obtain ⟨R, hR⟩ : ∃ R, loopS N ch (k1, k2) bell [d] pn 60 [] fr 0 = R := ⟨_, rfl⟩
    rw [hR] at HRR
    have HR := hid hR
    clear hR GR GS HRD HD GC hl2
    go_wp2
    go_loopg [2, 10, 11, 18, 19] 60 (fun gk u r1 r2 v x wr => ∃ (f0 out : List UInt8) (sk : Int), out.length ≤ 60 ∧ gk = 60 - out.length ∧ u = .string (bs f0) ∧ v = .int .i64 sk ∧ x = .string (bs out) ∧ Hid (IsRow f0 ∧ f0.length = N) ∧ (-1 - (out.length : Int) ≤ sk ∧ sk < 1000000) ∧ Hid (loopS N ch (k1, k2) bell [d] pn (60 - out.length) out f0 sk = R) ∧ Below W2.heap.size W2 wr)
    case atStart => exact ⟨fr, [], 0, by simp, by simp, rfl, rfl, rfl, HF, ⟨by simp only [List.length_nil]; omega, by omega⟩, hid (by simpa using HR.out), HB1.out⟩
    case round =>
      obtain ⟨f0, out, sk, ho, rfl, rfl, rfl, rfl, hfx, ⟨hs1, hs2⟩, HL, hb⟩ := hrel
      have HB := hid hb
      have hbs := hb.size
      clear hb
      by_cases hlt : out.length < 60
      · have i1 : (out.length : Int) < 60 := by omega
        obtain ⟨g, hg⟩ : ∃ g, 60 - out.length = g + 1 := ⟨59 - out.length, by omega⟩
        have hg2 : 60 - (out.length + 1) = g := by omega
        rw [hg] at HL
        have HG2 := hid hg2
        clear hg2
        obtain ⟨n0, n1, n2, p0, p1⟩ := HHS5.out _ HB.out
        go_wp2_with fail
        refine (GP [d] f0 _ (RS.out.below HB.out) hfx.out.1 hfx.out.2).out.mono ?_
        rintro e w5 ⟨rfl, b5⟩
        have HB5 := hid (HB.out.trans (b5.mono hbs))
        clear b5 n0 n1 n2 p0 p1
        obtain ⟨n0, n1, n2, p0, p1⟩ := HHS5.out _ HB5.out
        have HH := hid (fun (h : ((placeL (timesL f0 (callHeadL N ch (k1, k2) [d])) bell : Nat) : Int) = pn) => loopS_hit (f := g) (out := out) h)
        have HLs := hid (fun (h : ((placeL (timesL f0 (callHeadL N ch (k1, k2) [d])) bell : Nat) : Int) = pn) (h0 : sk ≠ 0) => loopS_less (f := g) (out := out) h h0)
        have HM := hid (fun (h : ¬ ((placeL (timesL f0 (callHeadL N ch (k1, k2) [d])) bell : Nat) : Int) = pn) => loopS_miss (f := g) (out := out) (sk := sk) h)
        generalize placeL (timesL f0 (callHeadL N ch (k1, k2) [d])) bell = PL at *
        by_cases hpe : (PL : Int) = pn
        · by_cases h0 : sk = 0
          · subst h0
            have HE := hid (HH.out hpe)
            rw [HL.out] at HE
            clear HH HLs HM HL
            go_wp2
            go_ret2
            exact ⟨⟨_, true, rfl, by rw [HRR.out, HE.out]; rfl⟩, HB2.out.trans (HB5.out.mono hw2)⟩
          · have HLL : Hid (loopS N ch (k1, k2) bell [d] pn (60 - (out.length + 1)) (out ++ [112]) (timesL f0 (callHeadL N ch (k1, k2) [112])) (sk - 1) = R) := hid (by rw [HG2.out, ← HL.out, HLs.out hpe h0])
            have hwk : IntKind.i64.wrap (sk - 1) = sk - 1 := IntWalk.i64_in _ (by omega)
            clear HH HLs HM HL HG2
            go_wp2_with fail
            refine (GH _ (RS.out.below HB5.out)).out.mono ?_
            rintro e w6 ⟨rfl, b6⟩
            have HB6 := hid (HB5.out.trans (b6.mono HB5.out.size))
            clear b6 n0 n1 n2 p0 p1
            go_wp2_with fail
            refine (GT f0 _ hfx.out.1 hfx.out.2).out.mono ?_
            rintro e w7 ⟨rfl, rfl⟩
            go_wp2
            go_roundg (60 - (out.length + 1))
            case measure => omega
            case rel => exact ⟨_, out ++ [112], sk - 1, by simp; omega, by simp, rfl, by first | rfl | go_num, by simp, hid (HX.out f0 hfx.out), by rw [List.length_append, List.length_singleton]; omega, by rw [List.length_append, List.length_singleton]; exact HLL, HB6.out⟩
        · have HLL : Hid (loopS N ch (k1, k2) bell [d] pn (60 - (out.length + 1)) (out ++ [112]) (timesL f0 (callHeadL N ch (k1, k2) [112])) sk = R) := hid (by rw [HG2.out, ← HL.out, HM.out hpe])
          clear HH HLs HM HL HG2
          go_wp2_with fail
          refine (GH _ (RS.out.below HB5.out)).out.mono ?_
          rintro e w6 ⟨rfl, b6⟩
          have HB6 := hid (HB5.out.trans (b6.mono HB5.out.size))
          clear b6 n0 n1 n2 p0 p1
          go_wp2_with fail
          refine (GT f0 _ hfx.out.1 hfx.out.2).out.mono ?_
          rintro e w7 ⟨rfl, rfl⟩
          go_wp2
          go_roundg (60 - (out.length + 1))
          case measure => omega
          case rel => exact ⟨_, out ++ [112], sk, by simp; omega, by simp, rfl, by first | rfl | go_num, by simp, hid (HX.out f0 hfx.out), by rw [List.length_append, List.length_singleton]; omega, by rw [List.length_append, List.length_singleton]; exact HLL, HB6.out⟩
      · have h60 : out.length = 60 := by omega
        have i1 : ¬ (out.length : Int) < 60 := by omega
        have HE := hid HL.out
        rw [h60] at HE
        go_wp2
        go_ret2
        exact ⟨⟨[], false, rfl, by rw [HRR.out, ← HE.out]; rfl⟩, HB2.out.trans (HB.out.mono hw2)⟩
theorem l10Word_any (N : Nat) (nm fr wd : List UInt8) (bell : Int) (ch : List (List UInt8)) (k : List UInt8 × List UInt8) (A : Option Addr) (n c : Nat) (w : World) (lo : 3 ≤ N) (hi : N ≤ 8) (hrd : Rd w A n (strV ch)) (hn : n ≤ 1048576) (hcap : n ≤ c) (l1 : 1 ≤ ch.length) (hs : ∀ x ∈ ch, okChange (N : Int) x = true) (hb1 : okChange (N : Int) k.1 = true) (hb2 : okChange (N : Int) k.2 = true) (hf : IsRow fr) (hfl : fr.length = N) (hwd : wd.length ≤ 1000) :
    Calls Tryz.prog 15 #[.agg #[.string (bs nm), .int .i64 N, .slice A n c], .agg #[.string (bs k.1), .string (bs k.2)], .string (bs fr), .string (bs wd), .int .i64 bell] w fun e w' => WordE (wordS N ch k bell fr wd) e ∧ Below w.heap.size w w' := by
  cases wd with
  | nil => exact word_short N nm fr [] bell ch k A n c w (by decide)
  | cons d r =>
    by_cases hr : r.length < 1
    · exact word_short N nm fr (d :: r) bell ch k A n c w (by simp only [List.length_cons]; omega)
    · have hr1 : 1 ≤ r.length := by omega
      have hr2 : r.length ≤ 1000 := by simp at hwd; omega
      cases hc : isCallL [d]
      · exact word_no N nm fr r d bell ch k A n c w hr1 hc
      · by_cases hd : d = 112
        · subst hd
          exact word_p N nm fr r bell ch k A n c w hr1 hr2
        · exact word_c N nm fr r d bell ch k A n c w lo hi hrd hn hcap l1 hs hb1 hb2 hf hfl hr1 hr2 hc hd
theorem loopS_len {N : Nat} {ch : List (List UInt8)} {k : List UInt8 × List UInt8} {bell : Int} {call : List UInt8} {n : Int} (f : Nat) : ∀ {out fr : List UInt8} {sk : Int} {x : List UInt8}, loopS N ch k bell call n f out fr sk = some x → x.length ≤ out.length + f + call.length := by
  induction f with
  | zero => intro out fr sk x h; cases h
  | succ f ih =>
    intro out fr sk x h
    rw [loopS] at h
    split at h
    · split at h
      · injection h with h
        rw [← h]; simp; try omega
      · have := ih h
        simp at this; omega
    · have := ih h
      simp at this; omega
theorem wordS_len {N : Nat} {ch : List (List UInt8)} {k : List UInt8 × List UInt8} {bell : Int} {fr wd x : List UInt8} (h : wordS N ch k bell fr wd = some x) : x.length ≤ 61 := by
  unfold wordS at h
  split at h
  · cases h
  · split at h
    · split at h
      · injection h with h
        rw [← h, List.length_replicate]
        exact Nat.min_le_right _ _
      · cases h
    · have h1 := loopS_len 60 h
      have h2 : (wd.take 1).length ≤ 1 := by rw [List.length_take]; exact Nat.min_le_left _ _
      simp at h1; simp at h2; omega
end Go.Proofs.YtihaopijnkiafaaGreatDoor

set_option linter.unusedVariables false
set_option linter.unusedSimpArgs false
set_option maxRecDepth 100000
namespace Go.Proofs.YtihaopijnkiafaaGreatDoor
open Go.RowKit

/-- What ReadCalling answers. -/
def readC (m : Meth) (k : List UInt8 × List UInt8) (s : List UInt8) (b : Int) : List UInt8 × Bool := if ((callsB m k && bellB m b) && decide (s.length ≤ 200)) = true then resI m.st.toNat m.ch k b s else ([], false)
theorem readC_no {m : Meth} {k : List UInt8 × List UInt8} {s : List UInt8} {b : Int} (h : ((callsB m k && bellB m b) && decide (s.length ≤ 200)) = false) : readC m k s b = ([], false) := by unfold readC; rw [if_neg (by rw [h]; simp)]
theorem readC_yes {m : Meth} {k : List UInt8 × List UInt8} {s : List UInt8} {b : Int} (h : ((callsB m k && bellB m b) && decide (s.length ≤ 200)) = true) : readC m k s b = resI m.st.toNat m.ch k b s := by unfold readC; rw [if_pos h]
section
variable {N : Nat} {ch : List (List UInt8)} {k : List UInt8 × List UInt8} {bell : Int}
theorem foldS_none {x : List UInt8} {r : List (List UInt8)} {t fr : List UInt8} (h : wordS N ch k bell fr x = none) : foldS N ch k bell (x :: r) (t, fr) = none := by rw [foldS, stepS, h]
theorem foldS_long {x y : List UInt8} {r : List (List UInt8)} {t fr : List UInt8} (h : wordS N ch k bell fr x = some y) (hl : 60 < t.length + y.length) : foldS N ch k bell (x :: r) (t, fr) = none := by rw [foldS, stepS, h]; dsimp only; rw [if_pos hl]
theorem foldS_some {x y : List UInt8} {r : List (List UInt8)} {t fr : List UInt8} (h : wordS N ch k bell fr x = some y) (hl : ¬ 60 < t.length + y.length) : foldS N ch k bell (x :: r) (t, fr) = foldS N ch k bell r (t ++ y, timesL fr (headTo N ch k y y.length)) := by rw [foldS, stepS, h]; dsimp only; rw [if_neg hl]
theorem resS_none {s : List UInt8} (h : foldS N ch k bell (segsS 32 s) ([], roundsL N) = none) : resS N ch k bell s = ([], false) := by unfold resS; rw [h]
theorem resS_some {s t h0 : List UInt8} (h : foldS N ch k bell (segsS 32 s) ([], roundsL N) = some (t, h0)) : resS N ch k bell s = if testB N ch k bell t s = true then (t, true) else ([], false) := by unfold resS; rw [h]
theorem test_bad {t s : List UInt8} (h : goodTouch t = false) : testB N ch k bell t s = false := by unfold testB; rw [h]; rfl
theorem test_eq {t s X : List UInt8} (h : goodTouch t = true) (hx : calText (plP N ch k t bell) t = X) : testB N ch k bell t s = (X == s) := by unfold testB; rw [h, hx]; rfl
end
set_option maxHeartbeats 4000000 in
theorem specReadCalling_law (m : Meth) (k : List UInt8 × List UInt8) (s : List UInt8) (b : Int) (A : Option Addr) (n c : Nat) (w : World) (ok : LawOk m k) (rd : Rd w A n (strV m.ch)) (hcap : n ≤ c) (lt : s.length ≤ 1048576) :
    Calls Tryz.prog 6 #[.agg #[.string (bs m.nm), .int .i64 m.st, .slice A n c], .agg #[.string (bs k.1), .string (bs k.2)], .string (bs s), .int .i64 b] w fun e w' => e = .returned (.tuple #[.string (bs (readC m k s b).1), .bool (readC m k s b).2]) ∧ Below w.heap.size w w' := by
  have hn : n ≤ 1048576 := by have h1 := rd.1; have h2 := ok.2.2.1; rw [strV_len] at h1; omega
  have GC0 := fun (w0 : World) (rd : Rd w0 A n (strV m.ch)) => hid (l10AskedB_any m k b A n c w0 ok rd)
  have RS := hid rd
  clear rd ok
  cases hg0 : callsB m k && bellB m b
  · rw [hg0] at GC0
    have HR := hid (show readC m k s b = ([], false) from readC_no (by rw [hg0]; rfl))
    obtain ⟨nm, st, ch⟩ := m
    obtain ⟨k1, k2⟩ := k
    dsimp only at *
    clear hg0
    go_enter Tryz.func6, Tryz.ntmps6
    go_wp2_with fail
    obtain ⟨B2, hsz, HC⟩ := box_mk w nm k1 k2 st (.slice A n c)
    have R2 := hid (RS.out.below B2)
    have HB2 := hid B2
    have hw2 := B2.size
    generalize ((w.alloc (.cells #[.string (bs nm), .int .i64 st, .slice A n c] 31)).alloc (.cells #[.string (bs k1), .string (bs k2)] 33)) = W2 at *
    clear B2 hsz
    have HHS5 := hid (fun W' (h : Below W2.heap.size W2 W') => (show W'.cell? ⟨w.heap.size, 0, none⟩ = some (.string (bs nm)) ∧ W'.cell? ⟨w.heap.size, 1, none⟩ = some (.int .i64 st) ∧ W'.cell? ⟨w.heap.size, 2, none⟩ = some (.slice A n c) ∧ W'.cell? ⟨w.heap.size + 1, 0, none⟩ = some (.string (bs k1)) ∧ W'.cell? ⟨w.heap.size + 1, 1, none⟩ = some (.string (bs k2)) from by
      obtain ⟨⟨a0, a1, a2⟩, a3, a4⟩ := HC.out _ h
      exact ⟨a0, a1, a2, a3, a4⟩))
    clear HC
    obtain ⟨n0, n1, n2, p0, p1⟩ := HHS5.out _ (Below.refl _ _)
    refine (GC0 _ R2.out).out.mono ?_
    rintro e w1 ⟨rfl, b1⟩
    have E1 := hid b1
    clear b1 n0 n1 n2 p0 p1
    go_wp2
    go_ret2
    rw [HR.out]
    exact ⟨rfl, HB2.out.trans (E1.out.mono hw2)⟩
  rw [hg0] at GC0
  by_cases hl : 200 < s.length
  · have HR := hid (show readC m k s b = ([], false) from readC_no (by rw [hg0]; simp; omega))
    have hli : (200 : Int) < (s.length : Int) := by omega
    obtain ⟨nm, st, ch⟩ := m
    obtain ⟨k1, k2⟩ := k
    dsimp only at *
    clear hg0
    go_enter Tryz.func6, Tryz.ntmps6
    go_wp2_with fail
    obtain ⟨B2, hsz, HC⟩ := box_mk w nm k1 k2 st (.slice A n c)
    have R2 := hid (RS.out.below B2)
    have HB2 := hid B2
    have hw2 := B2.size
    generalize ((w.alloc (.cells #[.string (bs nm), .int .i64 st, .slice A n c] 31)).alloc (.cells #[.string (bs k1), .string (bs k2)] 33)) = W2 at *
    clear B2 hsz
    have HHS5 := hid (fun W' (h : Below W2.heap.size W2 W') => (show W'.cell? ⟨w.heap.size, 0, none⟩ = some (.string (bs nm)) ∧ W'.cell? ⟨w.heap.size, 1, none⟩ = some (.int .i64 st) ∧ W'.cell? ⟨w.heap.size, 2, none⟩ = some (.slice A n c) ∧ W'.cell? ⟨w.heap.size + 1, 0, none⟩ = some (.string (bs k1)) ∧ W'.cell? ⟨w.heap.size + 1, 1, none⟩ = some (.string (bs k2)) from by
      obtain ⟨⟨a0, a1, a2⟩, a3, a4⟩ := HC.out _ h
      exact ⟨a0, a1, a2, a3, a4⟩))
    clear HC
    obtain ⟨n0, n1, n2, p0, p1⟩ := HHS5.out _ (Below.refl _ _)
    refine (GC0 _ R2.out).out.mono ?_
    rintro e w1 ⟨rfl, b1⟩
    have E1 := hid b1
    clear b1 n0 n1 n2 p0 p1
    go_wp2
    go_ret2
    rw [HR.out]
    exact ⟨rfl, HB2.out.trans (E1.out.mono hw2)⟩
  have hli : ¬ (200 : Int) < (s.length : Int) := by omega
  have hcalls : callsB m k = true := by simp only [Bool.and_eq_true] at hg0; exact hg0.1
  have HR := hid (show readC m k s b = resI m.st.toNat m.ch k b s from readC_yes (by rw [hg0]; simp; omega))
  have hm : methB m = true := callsB_meth (m := m) (k := k) hcalls
  have hb1 := callsB_bob hcalls
  have hb2 := callsB_single hcalls
  obtain ⟨N, hN, lo, hi, l1, l40, hs⟩ := meth_parts hm
  clear hm hcalls hg0
  obtain ⟨nm, st, ch⟩ := m
  obtain ⟨k1, k2⟩ := k
  dsimp only at *
  subst hN
  rw [Int.toNat_natCast] at HR
  rw [← res_eq lo hi] at HR
  have GRN := hid (fun (w0 : World) => l1Rounds_any N w0 hi)
  have GSP := hid (fun (w0 : World) => (show Calls Tryz.prog 14 #[.string (bs s), .int .u8 32] w0 (OneSn w0 (segsS 32 s).length (segsS 32 s)) from l1Split_any s 32 w0 (by omega)))
  have GW := fun (fr wd : List UInt8) (w0 : World) (rd : Rd w0 A n (strV ch)) (h1 : IsRow fr) (h2 : fr.length = N) (h3 : wd.length ≤ 1000) => hid (l10Word_any N nm fr wd b ch (k1, k2) A n c w0 lo hi rd hn hcap l1 hs hb1 hb2 h1 h2 h3)
  have GE := fun (t : List UInt8) (w0 : World) (rd : Rd w0 A n (strV ch)) (h : t.length ≤ 1000) => hid (l9End_any N nm t ch (k1, k2) A n c w0 lo hi rd hn hcap l1 hs hb1 hb2 h)
  have GT := fun (f0 : List UInt8) (x : List UInt8) (w0 : World) (h1 : IsRow f0) (h2 : f0.length = N) => hid (l1Times_any f0 (headTo N ch (k1, k2) x x.length) w0 h1 (headTo_row lo hi ch (k1, k2) x x.length).1 (by rw [h2, (headTo_row lo hi ch (k1, k2) x x.length).2]))
  have HX := hid (fun (f0 x : List UInt8) (h1 : IsRow f0 ∧ f0.length = N) => (show IsRow (timesL f0 (headTo N ch (k1, k2) x x.length)) ∧ (timesL f0 (headTo N ch (k1, k2) x x.length)).length = N from ⟨times_row h1.1 (headTo_row lo hi ch (k1, k2) x x.length).1 (by rw [h1.2, (headTo_row lo hi ch (k1, k2) x x.length).2]), by rw [times_len, (headTo_row lo hi ch (k1, k2) x x.length).2]⟩))
  have GG := hid (fun (t : List UInt8) (w0 : World) (h : t.length ≤ 1000) => l9Good_any t w0 (by omega))
  have GL := fun (t : List UInt8) (w0 : World) (rd : Rd w0 A n (strV ch)) (h : t.length ≤ 60) => hid (l10Calling_any N nm t b ch (k1, k2) A n c w0 lo hi rd hn hcap l1 hs hb1 hb2 h)
  have HRR := hid (show IsRow (roundsL N) ∧ (roundsL N).length = N from ⟨rounds_row lo hi, rounds_len N⟩)
  have HD := hid (fun x (h : x ∈ segsS 32 s) => drop_len h)
  obtain ⟨g1, g2⟩ := segsS_len 32 s
  have HRN := hid (fun (h : foldS N ch (k1, k2) b (segsS 32 s) ([], roundsL N) = none) => resS_none h)
  have HRS := hid (fun (t h0 : List UInt8) (h : foldS N ch (k1, k2) b (segsS 32 s) ([], roundsL N) = some (t, h0)) => resS_some h)
  obtain ⟨SG, hSG⟩ : ∃ S, S = segsS 32 s := ⟨_, rfl⟩
  rw [← hSG] at GSP HD g1 g2 HRN HRS
  obtain ⟨R, hR⟩ : ∃ R, foldS N ch (k1, k2) b SG ([], roundsL N) = R := ⟨_, rfl⟩
  rw [hR] at HRN HRS
  have HF := hid hR
  clear hs hb1 hb2 hSG hR l1 l40
  go_enter Tryz.func6, Tryz.ntmps6
  go_wp2_with fail
  obtain ⟨B2, hsz, HC⟩ := box_mk w nm k1 k2 (N : Int) (.slice A n c)
  have R2 := hid (RS.out.below B2)
  have HB2 := hid B2
  have hw2 := B2.size
  generalize ((w.alloc (.cells #[.string (bs nm), .int .i64 (N : Int), .slice A n c] 31)).alloc (.cells #[.string (bs k1), .string (bs k2)] 33)) = W2 at *
  clear B2 hsz
  have HHS5 := hid (fun W' (h : Below W2.heap.size W2 W') => (show W'.cell? ⟨w.heap.size, 0, none⟩ = some (.string (bs nm)) ∧ W'.cell? ⟨w.heap.size, 1, none⟩ = some (.int .i64 (N : Int)) ∧ W'.cell? ⟨w.heap.size, 2, none⟩ = some (.slice A n c) ∧ W'.cell? ⟨w.heap.size + 1, 0, none⟩ = some (.string (bs k1)) ∧ W'.cell? ⟨w.heap.size + 1, 1, none⟩ = some (.string (bs k2)) from by
    obtain ⟨⟨a0, a1, a2⟩, a3, a4⟩ := HC.out _ h
    exact ⟨a0, a1, a2, a3, a4⟩))
  clear HC
  obtain ⟨n0, n1, n2, p0, p1⟩ := HHS5.out _ (Below.refl _ _)
  refine (GC0 _ R2.out).out.mono ?_
  rintro e w1 ⟨rfl, b1⟩
  have E1 := hid b1
  clear b1 n0 n1 n2 p0 p1
  obtain ⟨n0, n1, n2, p0, p1⟩ := HHS5.out _ E1.out
  go_wp2_with fail
  refine (GRN.out _).mono ?_
  rintro e w2 ⟨rfl, rfl⟩
  go_wp2_with fail
  refine (GSP.out _).mono ?_
  rintro e w2 ⟨v2, rfl, o2, b2⟩
  have E2 := hid (E1.out.trans (b2.mono E1.out.size))
  have hs2 := E2.out.size
  obtain ⟨A1, c1, rfl, hc1, _, rd1, y1⟩ := own_shape o2
  have AT := hid (fun (i : Nat) (hi : i < SG.length) => (show ∃ b o, A1 = some ⟨b, o, none⟩ ∧ w2.cell? ⟨b, o + i, none⟩ = some (.string (bs SG[i])) from by
    obtain ⟨b, o, e, hk, hc⟩ := rd1.str hi
    exact ⟨b, o, e, hc⟩))
  obtain ⟨q, o, rfl, _⟩ := AT.out 0 (by omega)
  have AT2 := hid (fun (i : Nat) (hi : i < SG.length) => (show w2.cell? ⟨q, o + i, none⟩ = some (.string (bs SG[i])) from by
    obtain ⟨b', o', e, hc⟩ := AT.out i hi
    obtain ⟨rfl, rfl⟩ : q = b' ∧ o = o' := by injection e with e; injection e with e1 e2; exact ⟨e1, e2⟩
    exact hc))
  clear AT b2 o2 rd1 y1 n0 n1 n2 p0 p1
  go_wp2_with fail
  go_loopg [10, 11, 32] SG.length (fun gk u v x wr => ∃ (i : Nat) (t f0 : List UInt8), i ≤ SG.length ∧ gk = SG.length - i ∧ u = .string (bs t) ∧ v = .string (bs f0) ∧ x = .int .i64 (i : Int) ∧ t.length ≤ 60 ∧ Hid (IsRow f0 ∧ f0.length = N) ∧ Hid (foldS N ch (k1, k2) b (SG.drop i) (t, f0) = R) ∧ Hid (Below w2.heap.size w2 wr))
  case atStart => exact ⟨0, [], roundsL N, by omega, by omega, rfl, rfl, rfl, by simp, HRR, hid (by rw [List.drop_zero]; exact HF.out), hid (Below.refl _ _)⟩
  case round =>
    obtain ⟨i, t, f0, hi', rfl, rfl, rfl, rfl, ht, hfx, HL, hb⟩ := hrel
    have HB := hid (E2.out.trans (hb.out.mono hs2))
    have hbs := HB.out.size
    by_cases hlt : i < SG.length
    · have hci : wr.cell? ⟨q, o + i, none⟩ = some (.string (bs SG[i])) := (hb.out.cell (World.block_lt_of_cell? w2 _ (AT2.out i hlt))).trans (AT2.out i hlt)
      have hwl : SG[i].length ≤ 1000 := by have := HD.out _ (List.getElem_mem hlt); omega
      have hdr := List.drop_eq_getElem_cons hlt
      rw [hdr] at HL
      have i0 : (0 : Int) ≤ (i : Int) := by omega
      have i1 : (i : Int) < (SG.length : Int) := by omega
      generalize SG[i] = wd at *
      clear hdr
      obtain ⟨n0, n1, n2, p0, p1⟩ := HHS5.out _ HB.out
      go_wp2_with fail
      refine (GW f0 wd _ (R2.out.below HB.out) hfx.out.1 hfx.out.2 hwl).out.mono ?_
      rintro e w5 ⟨⟨x, okk, rfl, hx⟩, b5⟩
      have HB5 := hid (HB.out.trans (b5.mono hbs))
      have hb5 := hid (hb.out.trans (b5.mono hb.out.size))
      have hbs5 := HB5.out.size
      clear b5 n0 n1 n2 p0 p1 hci
      cases okk
      · have HE := hid (HRN.out (by rw [← HL.out]; exact foldS_none (by rw [hx]; rfl)))
        clear hx HL
        go_wp2
        go_ret2
        rw [HR.out, HE.out]
        exact ⟨rfl, HB2.out.trans (HB5.out.mono hw2)⟩
      · have hx2 : wordS N ch (k1, k2) b f0 wd = some x := by rw [hx]; rfl
        have hxl := wordS_len hx2
        have HX2 := hid hx2
        clear hx hx2
        have hwk : IntKind.i64.wrap ((t.length : Int) + (x.length : Int)) = (t.length : Int) + (x.length : Int) := IntWalk.i64_in _ (by omega)
        by_cases hlo : 60 < t.length + x.length
        · have hlo2 : (60 : Int) < (t.length : Int) + (x.length : Int) := by omega
          have HE := hid (HRN.out (by rw [← HL.out]; exact foldS_long HX2.out hlo))
          clear HL HX2
          go_wp2
          go_ret2
          rw [HR.out, HE.out]
          exact ⟨rfl, HB2.out.trans (HB5.out.mono hw2)⟩
        · have hlo2 : ¬ (60 : Int) < (t.length : Int) + (x.length : Int) := by omega
          have HL2 := hid (show foldS N ch (k1, k2) b (SG.drop (i + 1)) (t ++ x, timesL f0 (headTo N ch (k1, k2) x x.length)) = R by rw [← HL.out]; exact (foldS_some HX2.out hlo).symm)
          clear HL HX2
          obtain ⟨n0, n1, n2, p0, p1⟩ := HHS5.out _ HB5.out
          go_wp2_with fail
          refine (GE x _ (R2.out.below HB5.out) (by omega)).out.mono ?_
          rintro e w6 ⟨rfl, b6⟩
          have HB6 := hid (hb5.out.trans (b6.mono hb5.out.size))
          clear b6 n0 n1 n2 p0 p1
          go_wp2_with fail
          refine (GT f0 x _ hfx.out.1 hfx.out.2).out.mono ?_
          rintro e w7 ⟨rfl, rfl⟩
          go_wp2
          go_roundg (SG.length - (i + 1))
          case measure => omega
          case rel => exact ⟨i + 1, t ++ x, _, by omega, rfl, by simp, rfl, by go_num, by rw [List.length_append]; omega, hid (HX.out f0 x hfx.out), HL2, HB6⟩
    · obtain rfl : i = SG.length := by omega
      have HE := hid (HRS.out t f0 (by rw [← HL.out, List.drop_of_length_le (Nat.le_refl _)]; rfl))
      have GG1 := hid (fun (w0 : World) => GG.out t w0 (by omega))
      clear HL
      obtain ⟨n0, n1, n2, p0, p1⟩ := HHS5.out _ HB.out
      cases hgt : goodTouch t
      · rw [hgt] at GG1
        have HE2 := hid (test_bad (N := N) (ch := ch) (k := (k1, k2)) (bell := b) (s := s) hgt)
        clear hgt
        go_wp2_with fail
        refine (GG1.out _).mono ?_
        rintro e w7 ⟨rfl, rfl⟩
        go_wp2
        go_ret2
        rw [HR.out, HE.out, HE2.out]
        exact ⟨rfl, HB2.out.trans (HB.out.mono hw2)⟩
      · rw [hgt] at GG1
        obtain ⟨X, hX⟩ : ∃ X, calText (plP N ch (k1, k2) t b) t = X := ⟨_, rfl⟩
        have HE2 := hid (test_eq (N := N) (ch := ch) (k := (k1, k2)) (bell := b) (s := s) hgt hX)
        have GL1 := fun (w0 : World) (rd : Rd w0 A n (strV ch)) => GL t w0 rd ht
        rw [hX] at GL1
        clear hgt hX
        go_wp2_with fail
        refine (GG1.out _).mono ?_
        rintro e w7 ⟨rfl, rfl⟩
        go_wp2_with fail
        refine (GL1 _ (R2.out.below HB.out)).out.mono ?_
        rintro e w8 ⟨rfl, b8⟩
        have HB8 := hid (HB.out.trans (b8.mono hbs))
        clear b8 n0 n1 n2 p0 p1
        by_cases hxs : X = s
        · have e1 : (X == s) = true := by simpa using hxs
          have e2 : (X != s) = false := by simpa using hxs
          rw [e1] at HE2
          clear hxs
          go_wp2
          go_ret2
          rw [HR.out, HE.out, HE2.out]
          exact ⟨rfl, HB2.out.trans (HB8.out.mono hw2)⟩
        · have e1 : (X == s) = false := by simpa using hxs
          have e2 : (X != s) = true := by simpa using hxs
          rw [e1] at HE2
          clear hxs
          go_wp2
          go_ret2
          rw [HR.out, HE.out, HE2.out]
          exact ⟨rfl, HB2.out.trans (HB8.out.mono hw2)⟩
end Go.Proofs.YtihaopijnkiafaaGreatDoor

set_option linter.unusedVariables false
set_option linter.unusedSimpArgs false
set_option maxRecDepth 100000
namespace Go.Proofs.YtihaopijnkiafaaGreatDoor
open Go.RowKit

/-- m copies of u. -/
def repL (u : List UInt8) (m : Nat) : List UInt8 := (List.replicate m u).flatten
theorem repeatL_eq (u : List UInt8) (m : Nat) : Lib.repeatL u m = repL u m := by
  induction m with
  | zero => rfl
  | succ m ih => rw [Lib.repeatL, ih]; simp [repL, List.replicate_succ]
theorem repeat_any (l : List UInt8) (c : Int) (k : Nat) (w : World) (hc : c = k) (hk : k ≤ 1000000) (hl : l.length ≤ 1000000) :
    Calls Tryz.prog 43 #[.string (bs l), .int .i64 c] w fun e w' => e = .returned (.string (bs (repL l k))) ∧ Below w.heap.size w w' := by
  subst hc
  have hm : l.length * k ≤ 1000000 * 1000000 := Nat.mul_le_mul hl hk
  refine (Tryz.strings_Repeat (bs l) k w (by omega) (by rw [bs_size]; omega)).mono ?_
  rintro e w' ⟨rfl, hb⟩
  exact ⟨ret_str (repeatL_eq l k), hb⟩
theorem hasPrefix_any (s p : List UInt8) (w : World) :
    Calls Tryz.prog 67 #[.string (bs s), .string (bs p)] w fun e w' => e = .returned (.bool (Lib.hasPrefix s p)) ∧ w = w' := by
  refine (Tryz.strings_HasPrefix (bs s) (bs p) w).mono ?_
  rintro e w' ⟨rfl, rfl⟩
  exact ⟨rfl, rfl⟩
end Go.Proofs.YtihaopijnkiafaaGreatDoor

set_option linter.unusedVariables false
set_option linter.unusedSimpArgs false
set_option maxRecDepth 100000
namespace Go.Proofs.YtihaopijnkiafaaGreatDoor
open Go.RowKit

section
variable {N : Nat} {ch : List (List UInt8)} {k : List UInt8 × List UInt8} {bell : Int}
theorem loopI_hit {call t h : List UInt8} {n f : Nat} (hp : placeL (timesL h (callHeadL N ch k call)) bell = n) : loopI N ch k bell call n (f + 1) t h 0 = some (t, timesL h (callHeadL N ch k call)) := by rw [loopI, if_pos hp, if_pos rfl]
theorem loopI_less_end {call t h : List UInt8} {n f ps : Nat} (hp : placeL (timesL h (callHeadL N ch k call)) bell = n ∧ ps ≠ 0) (h60 : 60 ≤ t.length + 1) : loopI N ch k bell call n (f + 1) t h ps = none := by rw [loopI, if_pos hp.1, if_neg hp.2, if_pos h60]
theorem loopI_less_on {call t h : List UInt8} {n f ps : Nat} (hp : placeL (timesL h (callHeadL N ch k call)) bell = n ∧ ps ≠ 0) (h60 : ¬ 60 ≤ t.length + 1) : loopI N ch k bell call n (f + 1) t h ps = loopI N ch k bell call n f (t ++ [112]) (timesL h (callHeadL N ch k [112])) (ps - 1) := by rw [loopI, if_pos hp.1, if_neg hp.2, if_neg h60]
theorem loopI_miss_end {call t h : List UInt8} {n f ps : Nat} (hp : ¬ placeL (timesL h (callHeadL N ch k call)) bell = n) (h60 : 60 ≤ t.length + 1) : loopI N ch k bell call n (f + 1) t h ps = none := by rw [loopI, if_neg hp, if_pos h60]
theorem loopI_miss_on {call t h : List UInt8} {n f ps : Nat} (hp : ¬ placeL (timesL h (callHeadL N ch k call)) bell = n) (h60 : ¬ 60 ≤ t.length + 1) : loopI N ch k bell call n (f + 1) t h ps = loopI N ch k bell call n f (t ++ [112]) (timesL h (callHeadL N ch k [112])) ps := by rw [loopI, if_neg hp, if_neg h60]
theorem foldI_bad {it t h ci : List UInt8} {nn p : Nat} {okk : Bool} {r : List (List UInt8)} (e : itemF it = (ci, nn, p, okk)) (hb : (okk && isCallL ci) = false) : foldI N ch k bell (it :: r) (t, h) = none := by rw [foldI, stepI, e]; dsimp only; rw [if_pos hb]
theorem foldI_p {it t h : List UInt8} {nn p : Nat} {r : List (List UInt8)} (e : itemF it = ([112], nn, p, true)) : foldI N ch k bell (it :: r) (t, h) = foldI N ch k bell r (t ++ List.replicate nn 112, h) := by rw [foldI, stepI, e]; dsimp only; rw [if_neg (by decide), if_pos rfl]
theorem foldI_none {it t h ci : List UInt8} {nn p : Nat} {r : List (List UInt8)} (e : itemF it = (ci, nn, p, true)) (hc : isCallL ci = true) (hp : ¬ ci = [112]) (hl : loopI N ch k bell ci nn (60 - t.length + 1) t h p = none) : foldI N ch k bell (it :: r) (t, h) = none := by rw [foldI, stepI, e]; dsimp only; rw [if_neg (by rw [hc]; decide), if_neg hp, hl]
theorem foldI_some {it t h ci t1 h1 : List UInt8} {nn p : Nat} {r : List (List UInt8)} (e : itemF it = (ci, nn, p, true)) (hc : isCallL ci = true) (hp : ¬ ci = [112]) (hl : loopI N ch k bell ci nn (60 - t.length + 1) t h p = some (t1, h1)) : foldI N ch k bell (it :: r) (t, h) = foldI N ch k bell r (t1 ++ ci, h1) := by rw [foldI, stepI, e]; dsimp only; rw [if_neg (by rw [hc]; decide), if_neg hp, hl]
theorem parseI_none {s : List UInt8} (h : foldI N ch k bell (segsI 32 s) ([], roundsL N) = none) : parseI N ch k bell s = [] := by unfold parseI; rw [h]
theorem parseI_some {s t h0 : List UInt8} (h : foldI N ch k bell (segsI 32 s) ([], roundsL N) = some (t, h0)) : parseI N ch k bell s = t := by unfold parseI; rw [h]
end
theorem isCallL_len {l : List UInt8} (h : isCallL l = true) : l.length = 1 := by
  unfold isCallL at h
  simp only [Bool.or_eq_true, beq_iff_eq] at h
  rcases h with (h | h) | h <;> rw [h] <;> rfl
theorem segsI_len (s : List UInt8) : 1 ≤ (segsI 32 s).length ∧ (segsI 32 s).length ≤ s.length + 1 := by
  have h := congrArg List.length (segs_B s)
  have hle := Lib.countB_le (bs [32]) (by decide) (bs s).size (bs s) (Nat.le_refl _)
  rw [List.length_map, Lib.splitB_all (bs [32]) (by decide) 0 _ (bs s) rfl, strV_len] at h
  rw [bs_size] at hle
  omega
theorem splitK_len (sep : List UInt8) (n : Nat) : ∀ (s x : List UInt8), x ∈ Lib.splitK sep 0 n s → x.length ≤ s.length := by
  induction n with
  | zero => intro s x h; simp [Lib.splitK] at h; rw [h]; exact Nat.le_refl _
  | succ n ih =>
    intro s x h
    rw [Lib.splitK] at h
    split at h
    · simp at h; rw [h]; exact Nat.le_refl _
    · rw [List.mem_cons] at h
      rcases h with h | h
      · rw [h, List.length_take]; exact Nat.min_le_right _ _
      · have := ih _ _ h
        rw [List.length_drop] at this
        omega
theorem segsI_piece {s x : List UInt8} (h : x ∈ segsI 32 s) : x.length ≤ s.length := splitK_len _ _ _ _ h
theorem repL_one (n : Nat) : repL [112] n = List.replicate n 112 := by
  induction n with
  | zero => rfl
  | succ n ih =>
    have h : repL [112] (n + 1) = [112] ++ repL [112] n := by simp [repL, List.replicate_succ]
    rw [h, ih, List.replicate_succ]; rfl
set_option maxHeartbeats 8000000 in
theorem callingTouch_any (N : Nat) (nm s : List UInt8) (bell : Int) (ch : List (List UInt8)) (k : List UInt8 × List UInt8) (A : Option Addr) (n c : Nat) (w : World) (lo : 3 ≤ N) (hi : N ≤ 8) (hr : Rd w A n (strV ch)) (hn : n ≤ 1048576) (l1 : 1 ≤ ch.length) (hs : ∀ x ∈ ch, okChange (N : Int) x = true) (hb1 : okChange (N : Int) k.1 = true) (hb2 : okChange (N : Int) k.2 = true) (hls : s.length ≤ 200) :
    Calls Tryz.prog 23 #[.agg #[.string (bs nm), .int .i64 N, .slice A n c], .agg #[.string (bs k.1), .string (bs k.2)], .string (bs s), .int .i64 bell] w fun e w' => e = .returned (.string (bs (parseI N ch k bell s))) ∧ Below w.heap.size w w' := by
  have GRN := hid (fun (w0 : World) => rounds_any N w0 hi)
  have GH := fun (call : List UInt8) (w0 : World) (rd : Rd w0 A n (strV ch)) => hid (callHead_any N nm call ch k A n c w0 lo hi rd hn l1 hs hb1 hb2)
  have GS := hid (fun (w0 : World) => split_any s w0 (by omega))
  have GI := hid (fun (it : List UInt8) (w0 : World) (h : it.length ≤ 500) => callingItem_any it w0 h)
  have GCL := hid (fun (l : List UInt8) (w0 : World) => isCall_any l w0)
  have GRP := hid (fun (m : Nat) (w0 : World) (h : m < 100) => repeat_any [112] (m : Int) m w0 rfl (by omega) (by simp))
  have GT := fun (call f0 : List UInt8) (w0 : World) (h1 : IsRow f0) (h2 : f0.length = N) => hid (times_any f0 (callHeadL N ch k call) w0 h1 (callHeadL_row lo hi ch k call) (by rw [h2, callHeadL_len]))
  have HX := hid (fun (f0 call : List UInt8) (h1 : IsRow f0 ∧ f0.length = N) => (show IsRow (timesL f0 (callHeadL N ch k call)) ∧ (timesL f0 (callHeadL N ch k call)).length = N from ⟨times_row h1.1 (callHeadL_row lo hi ch k call) (by rw [h1.2, callHeadL_len]), by rw [times_len, callHeadL_len]⟩))
  have GTP := fun (f0 : List UInt8) (w0 : World) (h1 : IsRow f0) (h2 : f0.length = N) => GT [112] f0 w0 h1 h2
  have GPL := fun (r : List UInt8) (w0 : World) (h : IsRow r) => hid (placeOf_any r bell w0 h)
  have HRR := hid (show IsRow (roundsL N) ∧ (roundsL N).length = N from ⟨rounds_row lo hi, rounds_len N⟩)
  have RS := hid hr
  have HD := hid (fun x (h : x ∈ segsI 32 s) => segsI_piece h)
  obtain ⟨g1, g2⟩ := segsI_len s
  have HRN := hid (fun (h : foldI N ch k bell (segsI 32 s) ([], roundsL N) = none) => parseI_none h)
  have HRS := hid (fun (t h0 : List UInt8) (h : foldI N ch k bell (segsI 32 s) ([], roundsL N) = some (t, h0)) => parseI_some h)
  obtain ⟨SG, hSG⟩ : ∃ S, S = segsI 32 s := ⟨_, rfl⟩
  rw [← hSG] at GS HD g1 g2 HRN HRS
  obtain ⟨R, hR⟩ : ∃ R, foldI N ch k bell SG ([], roundsL N) = R := ⟨_, rfl⟩
  rw [hR] at HRN HRS
  have HF := hid hR
  generalize parseI N ch k bell s = PI at *
  clear hr hs hb1 hb2 hSG hR l1
  obtain ⟨k1, k2⟩ := k
  dsimp only at *
  go_enter Tryz.func23, Tryz.ntmps23
  go_wp2_with fail
  obtain ⟨B2, hsz, HC⟩ := box_mk w nm k1 k2 (N : Int) (.slice A n c)
  have R2 := hid (RS.out.below B2)
  have HB2 := hid B2
  have hw2 := B2.size
  generalize ((w.alloc (.cells #[.string (bs nm), .int .i64 (N : Int), .slice A n c] 31)).alloc (.cells #[.string (bs k1), .string (bs k2)] 33)) = W2 at *
  clear B2 hsz RS
  have HHS5 := hid (fun W' (h : Below W2.heap.size W2 W') => (show W'.cell? ⟨w.heap.size, 0, none⟩ = some (.string (bs nm)) ∧ W'.cell? ⟨w.heap.size, 1, none⟩ = some (.int .i64 (N : Int)) ∧ W'.cell? ⟨w.heap.size, 2, none⟩ = some (.slice A n c) ∧ W'.cell? ⟨w.heap.size + 1, 0, none⟩ = some (.string (bs k1)) ∧ W'.cell? ⟨w.heap.size + 1, 1, none⟩ = some (.string (bs k2)) from by
    obtain ⟨⟨a0, a1, a2⟩, a3, a4⟩ := HC.out _ h
    exact ⟨a0, a1, a2, a3, a4⟩))
  clear HC
  obtain ⟨z0, z1, z2, z3, z4⟩ := HHS5.out _ (Below.refl _ _)
  refine (GRN.out _).mono ?_
  rintro e w1 ⟨rfl, rfl⟩
  go_wp2_with fail
  refine (GH [112] _ R2.out).out.mono ?_
  rintro e w1 ⟨rfl, b1⟩
  have E1 := hid b1
  clear b1 z0 z1 z2 z3 z4
  go_wp2_with fail
  refine (GS.out _).mono ?_
  rintro e w2 ⟨rfl, hw2e⟩
  have E2 := hid (show Below W2.heap.size W2 w2 by rw [hw2e]; exact E1.out.alloc E1.out.size _)
  have hs2 := E2.out.size
  have AT := hid (fun (i : Nat) (hi : i < SG.length) => (show w2.cell? ⟨w1.heap.size, i, none⟩ = some (.string (bs SG[i])) from by
    have rd : Rd w2 (some ⟨w1.heap.size, 0, none⟩) SG.length (strV SG) := by
      rw [hw2e]
      have := Rd.blk w1 (strV SG) 9
      rwa [strV_len] at this
    obtain ⟨b', o', e, hk, hc⟩ := rd.str hi
    injection e with e
    injection e with e1 e2
    subst e1 e2
    rwa [Nat.zero_add] at hc))
  clear hw2e
  go_wp2_with fail
  go_loopg [9, 10, 28] SG.length (fun gk u v x wr => ∃ (i : Nat) (t h0 : List UInt8), i ≤ SG.length ∧ gk = SG.length - i ∧ u = .string (bs t) ∧ v = .string (bs h0) ∧ x = .int .i64 (i : Int) ∧ t.length ≤ 100 * i ∧ Hid (IsRow h0 ∧ h0.length = N) ∧ Hid (foldI N ch (k1, k2) bell (SG.drop i) (t, h0) = R) ∧ Hid (Below w2.heap.size w2 wr))
  case atStart => exact ⟨0, [], roundsL N, by omega, by omega, rfl, rfl, rfl, by simp, HRR, hid (by rw [List.drop_zero]; exact HF.out), hid (Below.refl _ _)⟩
  case round =>
    obtain ⟨i, t, h0, hi', rfl, rfl, rfl, rfl, ht, hfx, HL, hb⟩ := hrel
    by_cases hlt : i < SG.length
    · have hci : wr.cell? ⟨w1.heap.size, i, none⟩ = some (.string (bs SG[i])) := (hb.out.cell (World.block_lt_of_cell? w2 _ (AT.out i hlt))).trans (AT.out i hlt)
      have hwl : SG[i].length ≤ 500 := by have := HD.out _ (List.getElem_mem hlt); omega
      have hdr := List.drop_eq_getElem_cons hlt
      rw [hdr] at HL
      have i0 : (0 : Int) ≤ (i : Int) := by omega
      have i1 : (i : Int) < (SG.length : Int) := by omega
      generalize SG[i] = it at *
      clear hdr
      obtain ⟨hn1, hn2⟩ := itemF_rng it
      have GI1 := hid (fun (w0 : World) => GI.out it w0 hwl)
      obtain ⟨IT, hIT⟩ : ∃ I, itemF it = I := ⟨_, rfl⟩
      rw [hIT] at GI1 hn1 hn2
      obtain ⟨ci, nn, p0, okk⟩ := IT
      dsimp only at *
      have HIT := hid hIT
      clear hIT
      go_wp2_with fail
      refine (GI1.out _).mono ?_
      rintro e w5 ⟨rfl, b5⟩
      have HB5 := hid (hb.out.trans (b5.mono hb.out.size))
      clear b5 hci
      cases okk
      · have HN2 := hid (HRN.out (by rw [← HL.out]; exact foldI_bad HIT.out rfl))
        clear HL
        go_wp2
        go_ret
        rw [HN2.out]
        exact ⟨rfl, HB2.out.trans ((E2.out.trans (HB5.out.mono hs2)).mono hw2)⟩
      · have GC1 := hid (fun (w0 : World) => GCL.out ci w0)
        cases hcl : isCallL ci
        · rw [hcl] at GC1
          have HN2 := hid (HRN.out (by rw [← HL.out]; exact foldI_bad HIT.out (by rw [hcl]; rfl)))
          clear HL hcl
          go_wp2_with fail
          refine (GC1.out _).mono ?_
          rintro e w6 ⟨rfl, rfl⟩
          go_wp2
          go_ret
          rw [HN2.out]
          exact ⟨rfl, HB2.out.trans ((E2.out.trans (HB5.out.mono hs2)).mono hw2)⟩
        · rw [hcl] at GC1
          by_cases hp : ci = [112]
          · subst hp
            have HL2 := hid (show foldI N ch (k1, k2) bell (SG.drop (i + 1)) (t ++ List.replicate nn 112, h0) = R by rw [← HL.out]; exact (foldI_p HIT.out).symm)
            have GR1 := hid (fun (w0 : World) => GRP.out nn w0 hn1)
            rw [repL_one] at GR1
            have hrl : (List.replicate nn (112 : UInt8)).length = nn := List.length_replicate
            clear HL hcl
            go_wp2_with fail
            refine (GC1.out _).mono ?_
            rintro e w6 ⟨rfl, rfl⟩
            generalize List.replicate nn (112 : UInt8) = RN at *
            go_wp2_with fail
            refine (GR1.out _).mono ?_
            rintro e w7 ⟨rfl, b7⟩
            have HB7 := hid (HB5.out.trans (b7.mono HB5.out.size))
            clear b7
            go_wp2
            go_roundg (SG.length - (i + 1))
            case measure => omega
            case rel => exact ⟨i + 1, t ++ RN, h0, by omega, rfl, by simp, rfl, by go_num, by rw [List.length_append]; omega, hfx, HL2, HB7⟩
          · have hpb : (ci == [112]) = false := by simpa using hp
            have hcil := isCallL_len hcl
            obtain ⟨R1, hR1⟩ : ∃ r, loopI N ch (k1, k2) bell ci nn (60 - t.length + 1) t h0 p0 = r := ⟨_, rfl⟩
            have HLC0 := hid (fun (h : R1 = none) => foldI_none (r := SG.drop (i + 1)) HIT.out hcl hp (hR1.trans h))
            have HLC1 := hid (fun (t1 h1 : List UInt8) (h : R1 = some (t1, h1)) => foldI_some (r := SG.drop (i + 1)) HIT.out hcl hp (hR1.trans h))
            have HR1 := hid hR1
            clear hR1 hcl hp
            go_wp2_with fail
            refine (GC1.out _).mono ?_
            rintro e w6 ⟨rfl, rfl⟩
            go_wp2_with fail
            go_loopg [9, 10, 16] (61 - t.length) (fun gk u v x wr => ∃ (t1 h1 : List UInt8) (ps : Nat), t1.length ≤ 100 * i + 60 ∧ gk = 61 - t1.length ∧ u = .string (bs t1) ∧ v = .string (bs h1) ∧ x = .int .i64 (ps : Int) ∧ Hid (IsRow h1 ∧ h1.length = N) ∧ ps < 100 ∧ Hid (loopI N ch (k1, k2) bell ci nn (60 - t1.length + 1) t1 h1 ps = R1) ∧ Hid (Below w2.heap.size w2 wr))
            case atStart => exact ⟨t, h0, p0, by omega, rfl, rfl, rfl, rfl, hfx, hn2, HR1, HB5⟩
            case round =>
              obtain ⟨t1, h1, ps, ht1, rfl, rfl, rfl, rfl, hfx1, hps, HL1, hb1⟩ := hrel
              have EE := hid (E2.out.trans (hb1.out.mono hs2))
              obtain ⟨z0, z1, z2, z3, z4⟩ := HHS5.out _ EE.out
              go_wp2_with fail
              refine (GH ci _ (R2.out.below EE.out)).out.mono ?_
              rintro e w6 ⟨rfl, b6⟩
              have HB6 := hid (hb1.out.trans (b6.mono hb1.out.size))
              clear b6 z0 z1 z2 z3 z4
              go_wp2_with fail
              refine (GT ci h1 _ hfx1.out.1 hfx1.out.2).out.mono ?_
              rintro e w7 ⟨rfl, b7⟩
              have HB7 := hid (HB6.out.trans (b7.mono HB6.out.size))
              clear b7
              have HNX := hid (HX.out h1 ci hfx1.out)
              have HIT1 := hid (fun (h : placeL (timesL h1 (callHeadL N ch (k1, k2) ci)) bell = nn) => loopI_hit (f := 60 - t1.length) (t := t1) h)
              go_wp2_with fail
              refine (GPL _ _ HNX.out.1).out.mono ?_
              rintro e w9 ⟨rfl, rfl⟩
              by_cases hpe : placeL (timesL h1 (callHeadL N ch (k1, k2) ci)) bell = nn
              · have hpb2 : ((placeL (timesL h1 (callHeadL N ch (k1, k2) ci)) bell : Int) == (nn : Int)) = true := by simp; omega
                by_cases hp0 : ps = 0
                · subst hp0
                  have HE := hid (HIT1.out hpe)
                  rw [HL1.out] at HE
                  have HL2 := hid (show foldI N ch (k1, k2) bell (SG.drop (i + 1)) (t1 ++ ci, timesL h1 (callHeadL N ch (k1, k2) ci)) = R by rw [← HL.out]; exact (HLC1.out _ _ HE.out).symm)
                  clear HL HL1 HLC0 HLC1 HIT1 HE HR1 hpe
                  generalize timesL h1 (callHeadL N ch (k1, k2) ci) = NX at *
                  go_wp2
                  go_roundg (SG.length - (i + 1))
                  case measure => omega
                  case rel => exact ⟨i + 1, t1 ++ ci, NX, by omega, rfl, by simp, rfl, by go_num, by rw [List.length_append]; omega, HNX, HL2, HB7⟩
                · have HPE := (show _ ∧ ps ≠ 0 from ⟨hpe, hp0⟩)
                  have hp0b : ((ps : Int) == 0) = false := by simp; omega
                  have hwk : IntKind.i64.wrap ((ps : Int) - 1) = ((ps - 1 : Nat) : Int) := by rw [IntWalk.i64_in _ (by omega)]; omega
                  have HPE := hid HPE
                  clear hp0 hpe HIT1
                  go_wp2_with fail
                  refine (GTP h1 _ hfx1.out.1 hfx1.out.2).out.mono ?_
                  rintro e w8 ⟨rfl, b8⟩
                  have HB8 := hid (HB7.out.trans (b8.mono HB7.out.size))
                  clear b8
                  by_cases h60 : 60 ≤ t1.length + 1
                  · have h60i : (60 : Int) ≤ (t1.length : Int) + 1 := by omega
                    have hw9 : IntKind.i64.wrap ((t1.length : Int) + 1) = (t1.length : Int) + 1 := IntWalk.i64_in _ (by omega)
                    have HN1 := hid (show R1 = none by rw [← HL1.out]; exact loopI_less_end HPE.out h60)
                    have HN2 := hid (HRN.out (by rw [← HL.out]; exact HLC0.out HN1.out))
                    clear HL1 HL HLC0 HLC1 h60
                    go_wp2
                    go_ret
                    rw [HN2.out]
                    exact ⟨rfl, HB2.out.trans ((E2.out.trans (HB8.out.mono hs2)).mono hw2)⟩
                  · have h60i : ¬ (60 : Int) ≤ (t1.length : Int) + 1 := by omega
                    have HL3 := hid (show loopI N ch (k1, k2) bell ci nn (60 - (t1 ++ [112]).length + 1) (t1 ++ [112]) (timesL h1 (callHeadL N ch (k1, k2) [112])) (ps - 1) = R1 by
                      have h9 : 60 - (t1 ++ [(112 : UInt8)]).length + 1 = 60 - t1.length := by rw [List.length_append, List.length_singleton]; omega
                      rw [← HL1.out, h9]
                      exact (loopI_less_on HPE.out h60).symm)
                    clear HL1
                    go_wp2
                    go_roundg (61 - (t1.length + 1))
                    case measure => omega
                    case rel => exact ⟨t1 ++ [112], _, ps - 1, by rw [List.length_append, List.length_singleton]; omega, by rw [List.length_append, List.length_singleton], rfl, rfl, rfl, hid (HX.out h1 [112] hfx1.out), by omega, HL3, HB8⟩
              · have hpb2 : ((placeL (timesL h1 (callHeadL N ch (k1, k2) ci)) bell : Int) == (nn : Int)) = false := by simp; omega
                have HPE := hid hpe
                clear hpe HIT1
                go_wp2_with fail
                refine (GTP h1 _ hfx1.out.1 hfx1.out.2).out.mono ?_
                rintro e w8 ⟨rfl, b8⟩
                have HB8 := hid (HB7.out.trans (b8.mono HB7.out.size))
                clear b8
                by_cases h60 : 60 ≤ t1.length + 1
                · have h60i : (60 : Int) ≤ (t1.length : Int) + 1 := by omega
                  have hw9 : IntKind.i64.wrap ((t1.length : Int) + 1) = (t1.length : Int) + 1 := IntWalk.i64_in _ (by omega)
                  have HN1 := hid (show R1 = none by rw [← HL1.out]; exact loopI_miss_end HPE.out h60)
                  have HN2 := hid (HRN.out (by rw [← HL.out]; exact HLC0.out HN1.out))
                  clear HL1 HL HLC0 HLC1 h60
                  go_wp2
                  go_ret
                  rw [HN2.out]
                  exact ⟨rfl, HB2.out.trans ((E2.out.trans (HB8.out.mono hs2)).mono hw2)⟩
                · have h60i : ¬ (60 : Int) ≤ (t1.length : Int) + 1 := by omega
                  have HL3 := hid (show loopI N ch (k1, k2) bell ci nn (60 - (t1 ++ [112]).length + 1) (t1 ++ [112]) (timesL h1 (callHeadL N ch (k1, k2) [112])) (ps) = R1 by
                    have h9 : 60 - (t1 ++ [(112 : UInt8)]).length + 1 = 60 - t1.length := by rw [List.length_append, List.length_singleton]; omega
                    rw [← HL1.out, h9]
                    exact (loopI_miss_on HPE.out h60).symm)
                  clear HL1
                  go_wp2
                  go_roundg (61 - (t1.length + 1))
                  case measure => omega
                  case rel => exact ⟨t1 ++ [112], _, ps, by rw [List.length_append, List.length_singleton]; omega, by rw [List.length_append, List.length_singleton], rfl, rfl, rfl, hid (HX.out h1 [112] hfx1.out), by omega, HL3, HB8⟩
    · obtain rfl : i = SG.length := by omega
      have HE := hid (HRS.out t h0 (by rw [← HL.out, List.drop_of_length_le (Nat.le_refl _)]; rfl))
      clear HL
      go_wp2
      go_ret
      rw [HE.out]
      exact ⟨rfl, HB2.out.trans ((E2.out.trans (hb.out.mono hs2)).mono hw2)⟩
end Go.Proofs.YtihaopijnkiafaaGreatDoor

set_option linter.unusedVariables false
set_option linter.unusedSimpArgs false
set_option maxRecDepth 100000
namespace Go.Proofs.YtihaopijnkiafaaGreatDoor
open Go.RowKit

theorem loopI_len {N : Nat} {ch : List (List UInt8)} {k : List UInt8 × List UInt8} {bell : Int} {call : List UInt8} {n : Nat} (f : Nat) : ∀ {t h : List UInt8} {ps : Nat} {q : List UInt8 × List UInt8}, loopI N ch k bell call n f t h ps = some q → q.1.length ≤ t.length + f := by
  induction f with
  | zero => intro t h ps q e; cases e
  | succ f ih =>
    intro t h ps q e
    rw [loopI] at e
    split at e
    · split at e
      · injection e with e
        rw [← e]; dsimp only; omega
      · split at e
        · cases e
        · have := ih e
          rw [List.length_append, List.length_singleton] at this; omega
    · split at e
      · cases e
      · have := ih e
        rw [List.length_append, List.length_singleton] at this; omega
theorem itemF_call (it : List UInt8) : (itemF it).1.length ≤ 1 := by
  cases it with
  | nil => rw [itemF_nil]; simp
  | cons d r =>
    rw [itemF_cons]
    split <;> simp
theorem foldI_len {N : Nat} {ch : List (List UInt8)} {k : List UInt8 × List UInt8} {bell : Int} (L : List (List UInt8)) : ∀ {st q : List UInt8 × List UInt8}, foldI N ch k bell L st = some q → q.1.length ≤ st.1.length + 100 * L.length := by
  induction L with
  | nil => intro st q e; rw [foldI] at e; injection e with e; rw [e]; simp
  | cons x L ih =>
    intro st q e
    rw [foldI] at e
    cases hs : stepI N ch k bell st x with
    | none => rw [hs] at e; cases e
    | some st' =>
      rw [hs] at e
      have h1 := ih e
      have h2 : st'.1.length ≤ st.1.length + 100 := by
        unfold stepI at hs
        split at hs
        · cases hs
        · split at hs
          · injection hs with hs
            rw [← hs]
            dsimp only
            rw [List.length_append, List.length_replicate]
            have := (itemF_rng x).1
            omega
          · split at hs
            · cases hs
            · rename_i q' hq
              injection hs with hs
              rw [← hs]
              dsimp only
              rw [List.length_append]
              have h3 := loopI_len _ hq
              have h4 := itemF_call x
              omega
      rw [List.length_cons]
      omega
theorem parseI_len {N : Nat} {ch : List (List UInt8)} {k : List UInt8 × List UInt8} {bell : Int} (s : List UInt8) : (parseI N ch k bell s).length ≤ 100 * (s.length + 1) := by
  unfold parseI
  have h1 := (segsI_len s).2
  cases hf : foldI N ch k bell (segsI 32 s) ([], roundsL N) with
  | none => simp
  | some q =>
    have := foldI_len _ hf
    dsimp only at *
    rw [List.length_nil] at this
    omega
theorem resI_no {N : Nat} {ch : List (List UInt8)} {k : List UInt8 × List UInt8} {bell : Int} {s : List UInt8} (h : testB N ch k bell (parseI N ch k bell s) s = false) : resI N ch k bell s = ([], false) := by unfold resI; rw [h]; rfl
theorem resI_yes {N : Nat} {ch : List (List UInt8)} {k : List UInt8 × List UInt8} {bell : Int} {s : List UInt8} (h : testB N ch k bell (parseI N ch k bell s) s = true) : resI N ch k bell s = (parseI N ch k bell s, true) := by unfold resI; rw [h]; rfl
set_option maxHeartbeats 4000000 in
theorem implReadCalling_law (m : Meth) (k : List UInt8 × List UInt8) (s : List UInt8) (b : Int) (A : Option Addr) (n c : Nat) (w : World) (ok : LawOk m k) (rd : Rd w A n (strV m.ch)) (hcap : n ≤ c) (lt : s.length ≤ 1048576) :
    Calls Tryz.prog 9 #[.agg #[.string (bs m.nm), .int .i64 m.st, .slice A n c], .agg #[.string (bs k.1), .string (bs k.2)], .string (bs s), .int .i64 b] w fun e w' => e = .returned (.tuple #[.string (bs (readC m k s b).1), .bool (readC m k s b).2]) ∧ Below w.heap.size w w' := by
  have hn : n ≤ 1048576 := by have h1 := rd.1; have h2 := ok.2.2.1; rw [strV_len] at h1; omega
  have GC0 := fun (w0 : World) (rd : Rd w0 A n (strV m.ch)) => hid (goodCalls_law m k A n c w0 ok rd)
  have GC1 := hid (fun (w0 : World) => isBellB_any m b w0)
  have RS := hid rd
  clear rd ok
  cases hg0 : callsB m k
  · rw [hg0] at GC0
    have HR := hid (show readC m k s b = ([], false) from readC_no (by rw [hg0]; rfl))
    obtain ⟨nm, st, ch⟩ := m
    obtain ⟨k1, k2⟩ := k
    dsimp only at *
    clear hg0
    go_enter Tryz.func9, Tryz.ntmps9
    go_wp2_with fail
    obtain ⟨B2, hsz, HC⟩ := box_mk w nm k1 k2 st (.slice A n c)
    have R2 := hid (RS.out.below B2)
    have HB2 := hid B2
    have hw2 := B2.size
    generalize ((w.alloc (.cells #[.string (bs nm), .int .i64 st, .slice A n c] 31)).alloc (.cells #[.string (bs k1), .string (bs k2)] 33)) = W2 at *
    clear B2 hsz
    have HHS5 := hid (fun W' (h : Below W2.heap.size W2 W') => (show W'.cell? ⟨w.heap.size, 0, none⟩ = some (.string (bs nm)) ∧ W'.cell? ⟨w.heap.size, 1, none⟩ = some (.int .i64 st) ∧ W'.cell? ⟨w.heap.size, 2, none⟩ = some (.slice A n c) ∧ W'.cell? ⟨w.heap.size + 1, 0, none⟩ = some (.string (bs k1)) ∧ W'.cell? ⟨w.heap.size + 1, 1, none⟩ = some (.string (bs k2)) from by
      obtain ⟨⟨a0, a1, a2⟩, a3, a4⟩ := HC.out _ h
      exact ⟨a0, a1, a2, a3, a4⟩))
    clear HC
    obtain ⟨z0, z1, z2, z3, z4⟩ := HHS5.out _ (Below.refl _ _)
    refine (GC0 _ R2.out).out.mono ?_
    rintro e w1 ⟨rfl, b1⟩
    have E1 := hid b1
    clear b1 z0 z1 z2 z3 z4
    go_wp2
    go_ret2
    rw [HR.out]
    exact ⟨rfl, HB2.out.trans (E1.out.mono hw2)⟩
  rw [hg0] at GC0
  cases hg1 : bellB m b
  · rw [hg1] at GC1
    have HR := hid (show readC m k s b = ([], false) from readC_no (by rw [hg0, hg1]; rfl))
    obtain ⟨nm, st, ch⟩ := m
    obtain ⟨k1, k2⟩ := k
    dsimp only at *
    clear hg0 hg1
    go_enter Tryz.func9, Tryz.ntmps9
    go_wp2_with fail
    obtain ⟨B2, hsz, HC⟩ := box_mk w nm k1 k2 st (.slice A n c)
    have R2 := hid (RS.out.below B2)
    have HB2 := hid B2
    have hw2 := B2.size
    generalize ((w.alloc (.cells #[.string (bs nm), .int .i64 st, .slice A n c] 31)).alloc (.cells #[.string (bs k1), .string (bs k2)] 33)) = W2 at *
    clear B2 hsz
    have HHS5 := hid (fun W' (h : Below W2.heap.size W2 W') => (show W'.cell? ⟨w.heap.size, 0, none⟩ = some (.string (bs nm)) ∧ W'.cell? ⟨w.heap.size, 1, none⟩ = some (.int .i64 st) ∧ W'.cell? ⟨w.heap.size, 2, none⟩ = some (.slice A n c) ∧ W'.cell? ⟨w.heap.size + 1, 0, none⟩ = some (.string (bs k1)) ∧ W'.cell? ⟨w.heap.size + 1, 1, none⟩ = some (.string (bs k2)) from by
      obtain ⟨⟨a0, a1, a2⟩, a3, a4⟩ := HC.out _ h
      exact ⟨a0, a1, a2, a3, a4⟩))
    clear HC
    obtain ⟨z0, z1, z2, z3, z4⟩ := HHS5.out _ (Below.refl _ _)
    refine (GC0 _ R2.out).out.mono ?_
    rintro e w1 ⟨rfl, b1⟩
    have E1 := hid b1
    clear b1 z0 z1 z2 z3 z4
    obtain ⟨z0, z1, z2, z3, z4⟩ := HHS5.out _ E1.out
    go_wp2_with fail
    refine (GC1.out _).mono ?_
    rintro e w' ⟨rfl, rfl⟩
    clear z0 z1 z2 z3 z4
    obtain ⟨z0, z1, z2, z3, z4⟩ := HHS5.out _ E1.out
    go_wp2
    go_ret2
    rw [HR.out]
    exact ⟨rfl, HB2.out.trans (E1.out.mono hw2)⟩
  rw [hg1] at GC1
  by_cases hl : 200 < s.length
  · have HR := hid (show readC m k s b = ([], false) from readC_no (by rw [hg0, hg1]; simp; omega))
    have hli : (200 : Int) < (s.length : Int) := by omega
    obtain ⟨nm, st, ch⟩ := m
    obtain ⟨k1, k2⟩ := k
    dsimp only at *
    clear hg0 hg1
    go_enter Tryz.func9, Tryz.ntmps9
    go_wp2_with fail
    obtain ⟨B2, hsz, HC⟩ := box_mk w nm k1 k2 st (.slice A n c)
    have R2 := hid (RS.out.below B2)
    have HB2 := hid B2
    have hw2 := B2.size
    generalize ((w.alloc (.cells #[.string (bs nm), .int .i64 st, .slice A n c] 31)).alloc (.cells #[.string (bs k1), .string (bs k2)] 33)) = W2 at *
    clear B2 hsz
    have HHS5 := hid (fun W' (h : Below W2.heap.size W2 W') => (show W'.cell? ⟨w.heap.size, 0, none⟩ = some (.string (bs nm)) ∧ W'.cell? ⟨w.heap.size, 1, none⟩ = some (.int .i64 st) ∧ W'.cell? ⟨w.heap.size, 2, none⟩ = some (.slice A n c) ∧ W'.cell? ⟨w.heap.size + 1, 0, none⟩ = some (.string (bs k1)) ∧ W'.cell? ⟨w.heap.size + 1, 1, none⟩ = some (.string (bs k2)) from by
      obtain ⟨⟨a0, a1, a2⟩, a3, a4⟩ := HC.out _ h
      exact ⟨a0, a1, a2, a3, a4⟩))
    clear HC
    obtain ⟨z0, z1, z2, z3, z4⟩ := HHS5.out _ (Below.refl _ _)
    refine (GC0 _ R2.out).out.mono ?_
    rintro e w1 ⟨rfl, b1⟩
    have E1 := hid b1
    clear b1 z0 z1 z2 z3 z4
    obtain ⟨z0, z1, z2, z3, z4⟩ := HHS5.out _ E1.out
    go_wp2_with fail
    refine (GC1.out _).mono ?_
    rintro e w' ⟨rfl, rfl⟩
    clear z0 z1 z2 z3 z4
    obtain ⟨z0, z1, z2, z3, z4⟩ := HHS5.out _ E1.out
    go_wp2
    go_ret2
    rw [HR.out]
    exact ⟨rfl, HB2.out.trans (E1.out.mono hw2)⟩
  have hli : ¬ (200 : Int) < (s.length : Int) := by omega
  have HR := hid (show readC m k s b = resI m.st.toNat m.ch k b s from readC_yes (by rw [hg0, hg1]; simp; omega))
  have hm : methB m = true := callsB_meth (m := m) (k := k) hg0
  have hb1 := callsB_bob hg0
  have hb2 := callsB_single hg0
  obtain ⟨N, hN, lo, hi, l1, l40, hs⟩ := meth_parts hm
  clear hm
  obtain ⟨nm, st, ch⟩ := m
  obtain ⟨k1, k2⟩ := k
  dsimp only at *
  clear hg0 hg1
  subst hN
  rw [Int.toNat_natCast] at HR
  have GP := fun (w0 : World) (rd : Rd w0 A n (strV ch)) => hid (callingTouch_any N nm s b ch (k1, k2) A n c w0 lo hi rd hn l1 hs hb1 hb2 (by omega))
  have hpl := parseI_len (N := N) (ch := ch) (k := (k1, k2)) (bell := b) s
  have GG := hid (fun (w0 : World) => implGoodTouch_any (parseI N ch (k1, k2) b s) w0 (by omega))
  have HNO := hid (fun h => resI_no (N := N) (ch := ch) (k := (k1, k2)) (bell := b) (s := s) h)
  have HYES := hid (fun h => resI_yes (N := N) (ch := ch) (k := (k1, k2)) (bell := b) (s := s) h)
  obtain ⟨t, hT⟩ : ∃ t, parseI N ch (k1, k2) b s = t := ⟨_, rfl⟩
  rw [hT] at GP hpl GG HNO HYES
  cases hgt : goodTouch t
  · rw [hgt] at GG
    have HE := hid (HNO.out (test_bad hgt))
    clear hgt hb1 hb2 hs hT HNO HYES
    go_enter Tryz.func9, Tryz.ntmps9
    go_wp2_with fail
    obtain ⟨B2, hsz, HC⟩ := box_mk w nm k1 k2 (N : Int) (.slice A n c)
    have R2 := hid (RS.out.below B2)
    have HB2 := hid B2
    have hw2 := B2.size
    generalize ((w.alloc (.cells #[.string (bs nm), .int .i64 (N : Int), .slice A n c] 31)).alloc (.cells #[.string (bs k1), .string (bs k2)] 33)) = W2 at *
    clear B2 hsz
    have HHS5 := hid (fun W' (h : Below W2.heap.size W2 W') => (show W'.cell? ⟨w.heap.size, 0, none⟩ = some (.string (bs nm)) ∧ W'.cell? ⟨w.heap.size, 1, none⟩ = some (.int .i64 (N : Int)) ∧ W'.cell? ⟨w.heap.size, 2, none⟩ = some (.slice A n c) ∧ W'.cell? ⟨w.heap.size + 1, 0, none⟩ = some (.string (bs k1)) ∧ W'.cell? ⟨w.heap.size + 1, 1, none⟩ = some (.string (bs k2)) from by
      obtain ⟨⟨a0, a1, a2⟩, a3, a4⟩ := HC.out _ h
      exact ⟨a0, a1, a2, a3, a4⟩))
    clear HC
    obtain ⟨z0, z1, z2, z3, z4⟩ := HHS5.out _ (Below.refl _ _)
    refine (GC0 _ R2.out).out.mono ?_
    rintro e w1 ⟨rfl, b1⟩
    have E1 := hid b1
    clear b1 z0 z1 z2 z3 z4
    obtain ⟨z0, z1, z2, z3, z4⟩ := HHS5.out _ E1.out
    go_wp2_with fail
    refine (GC1.out _).mono ?_
    rintro e w' ⟨rfl, rfl⟩
    clear z0 z1 z2 z3 z4
    obtain ⟨z0, z1, z2, z3, z4⟩ := HHS5.out _ E1.out
    go_wp2_with fail
    refine (GP _ (R2.out.below E1.out)).out.mono ?_
    rintro e w3 ⟨rfl, b3⟩
    have E3 := hid (E1.out.trans (b3.mono E1.out.size))
    clear b3 z0 z1 z2 z3 z4
    obtain ⟨z0, z1, z2, z3, z4⟩ := HHS5.out _ E3.out
    go_wp2_with fail
    refine (GG.out _).mono ?_
    rintro e w4 ⟨rfl, rfl⟩
    go_wp2
    go_ret2
    rw [HR.out, HE.out]
    exact ⟨rfl, HB2.out.trans (E3.out.mono hw2)⟩
  · rw [hgt] at GG
    have GL := fun (w0 : World) (rd : Rd w0 A n (strV ch)) => hid (callingText_any N nm t b ch (k1, k2) A n c w0 lo hi rd hn hcap l1 hs hb1 hb2 (goodTouch_len60 hgt) (goodTouch_calls hgt))
    have HQ := hid (fun X (hX : calText (plP N ch (k1, k2) t b) t = X) => test_eq (N := N) (ch := ch) (k := (k1, k2)) (bell := b) (s := s) hgt hX)
    obtain ⟨X, hX⟩ : ∃ X, calText (plP N ch (k1, k2) t b) t = X := ⟨_, rfl⟩
    have HE2 := hid (HQ.out X hX)
    rw [hX] at GL
    clear hgt hb1 hb2 hs hT hX HQ
    go_enter Tryz.func9, Tryz.ntmps9
    go_wp2_with fail
    obtain ⟨B2, hsz, HC⟩ := box_mk w nm k1 k2 (N : Int) (.slice A n c)
    have R2 := hid (RS.out.below B2)
    have HB2 := hid B2
    have hw2 := B2.size
    generalize ((w.alloc (.cells #[.string (bs nm), .int .i64 (N : Int), .slice A n c] 31)).alloc (.cells #[.string (bs k1), .string (bs k2)] 33)) = W2 at *
    clear B2 hsz
    have HHS5 := hid (fun W' (h : Below W2.heap.size W2 W') => (show W'.cell? ⟨w.heap.size, 0, none⟩ = some (.string (bs nm)) ∧ W'.cell? ⟨w.heap.size, 1, none⟩ = some (.int .i64 (N : Int)) ∧ W'.cell? ⟨w.heap.size, 2, none⟩ = some (.slice A n c) ∧ W'.cell? ⟨w.heap.size + 1, 0, none⟩ = some (.string (bs k1)) ∧ W'.cell? ⟨w.heap.size + 1, 1, none⟩ = some (.string (bs k2)) from by
      obtain ⟨⟨a0, a1, a2⟩, a3, a4⟩ := HC.out _ h
      exact ⟨a0, a1, a2, a3, a4⟩))
    clear HC
    obtain ⟨z0, z1, z2, z3, z4⟩ := HHS5.out _ (Below.refl _ _)
    refine (GC0 _ R2.out).out.mono ?_
    rintro e w1 ⟨rfl, b1⟩
    have E1 := hid b1
    clear b1 z0 z1 z2 z3 z4
    obtain ⟨z0, z1, z2, z3, z4⟩ := HHS5.out _ E1.out
    go_wp2_with fail
    refine (GC1.out _).mono ?_
    rintro e w' ⟨rfl, rfl⟩
    clear z0 z1 z2 z3 z4
    obtain ⟨z0, z1, z2, z3, z4⟩ := HHS5.out _ E1.out
    go_wp2_with fail
    refine (GP _ (R2.out.below E1.out)).out.mono ?_
    rintro e w3 ⟨rfl, b3⟩
    have E3 := hid (E1.out.trans (b3.mono E1.out.size))
    clear b3 z0 z1 z2 z3 z4
    obtain ⟨z0, z1, z2, z3, z4⟩ := HHS5.out _ E3.out
    go_wp2_with fail
    refine (GG.out _).mono ?_
    rintro e w4 ⟨rfl, rfl⟩
    go_wp2_with fail
    refine (GL _ (R2.out.below E3.out)).out.mono ?_
    rintro e w5 ⟨rfl, b5⟩
    have E5 := hid (E3.out.trans (b5.mono E3.out.size))
    clear b5 z0 z1 z2 z3 z4
    by_cases hxs : X = s
    · have e1 : (X == s) = true := by simpa using hxs
      have e2 : (X != s) = false := by simpa using hxs
      rw [e1] at HE2
      have HE := hid (HYES.out HE2.out)
      clear hxs
      go_wp2
      go_ret2
      rw [HR.out, HE.out]
      exact ⟨rfl, HB2.out.trans (E5.out.mono hw2)⟩
    · have e1 : (X == s) = false := by simpa using hxs
      have e2 : (X != s) = true := by simpa using hxs
      rw [e1] at HE2
      have HE := hid (HNO.out HE2.out)
      clear hxs
      go_wp2
      go_ret2
      rw [HR.out, HE.out]
      exact ⟨rfl, HB2.out.trans (E5.out.mono hw2)⟩
end Go.Proofs.YtihaopijnkiafaaGreatDoor
