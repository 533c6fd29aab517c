/- Plain laws of the reading of a calling: the reference finds the touch too; both answer alike. No conditions beyond those stated. -/
import Derived.Test.YtihaopijnkiafaaGreatDoorRdQ
set_option linter.unusedVariables false
set_option linter.unusedSimpArgs false
set_option maxRecDepth 100000
namespace Go.Proofs.YtihaopijnkiafaaGreatDoor
open Go.RowKit
section
variable {N : Nat} {ch : List (List UInt8)} {k : List UInt8 × List UInt8} {bell : Int} {t0 : List UInt8}
theorem wordS_item (lo : 3 ≤ N) (hi8 : N ≤ 8) (h60 : t0.length ≤ 60) {i s : Nat} (hi : i < t0.length) (hsi : s ≤ i) (hc : callB (t0.getD i 0) = true) (hne : t0.getD i 0 ≠ 112) (hp : ∀ j, s ≤ j → j < i → t0.getD j 0 = 112) :
    wordS N ch k bell (headTo N ch k t0 s) (itemL (plP N ch k t0 bell) t0 i s) = some (List.replicate (i - s) 112 ++ [t0.getD i 0]) := by
  have hrun := loopS_run (N := N) (ch := ch) (k := k) (bell := bell) h60 hi (t0.getD i 0) (i - s) s (by omega) hp [] (by simp; omega) 60 rfl
  have ha := pl_lt (N := N) (ch := ch) (k := k) (bell := bell) (t0 := t0) lo hi8 i (t0.getD i 0)
  have hq : cntTo (plP N ch k t0 bell) (t0.getD i 0) (plP N ch k t0 bell i (t0.getD i 0)) s (i - s) < 100 := by
    have := cntTo_le (plP N ch k t0 bell) (t0.getD i 0) (plP N ch k t0 bell i (t0.getD i 0)) s (i - s)
    omega
  unfold itemL
  rw [List.nil_append] at hrun
  clear hp
  generalize cntTo (plP N ch k t0 bell) (t0.getD i 0) (plP N ch k t0 bell i (t0.getD i 0)) s (i - s) = q at *
  generalize plP N ch k t0 bell i (t0.getD i 0) = a at *
  generalize t0.getD i 0 = c at *
  have h1 := dec_byte a ha
  have h2 := dec_byte q hq
  have h3 := read_dec a ha
  have h4 := read_dec q hq
  have hcl : isCallL [c] = true := by rw [isCallL_one, hc]
  have hne1 : ¬ ([c] : List UInt8) = [112] := by simpa using hne
  by_cases h0 : q = 0
  · subst h0
    rw [if_pos rfl, List.append_nil]
    unfold wordS
    rw [show List.take 1 (c :: decL a) = [c] from rfl, show List.drop 1 (c :: decL a) = decL a from rfl, segsS_one h1.2.1, if_neg (by rw [hcl]; simp; omega), if_neg hne1]
    rw [if_neg (by simp), show ([decL a] : List (List UInt8)).getD 0 [] = decL a from rfl, h3]
    exact hrun
  · rw [if_neg h0]
    unfold wordS
    rw [show List.take 1 (c :: (decL a ++ 43 :: decL q)) = [c] from rfl, show List.drop 1 (c :: (decL a ++ 43 :: decL q)) = decL a ++ 43 :: decL q from rfl, segsS_cons h1.2.1, segsS_one h2.2.1, if_neg (by rw [hcl]; simp; try omega), if_neg hne1]
    rw [if_pos (by simp), show ([decL a, decL q] : List (List UInt8)).getD 0 [] = decL a from rfl, show ([decL a, decL q] : List (List UInt8)).getD 1 [] = decL q from rfl, h3, h4]
    exact hrun
theorem wordS_plain (fr : List UInt8) {d : Nat} (h1 : 1 ≤ d) (h60 : d ≤ 60) : wordS N ch k bell fr (112 :: decL d) = some (List.replicate d 112) := by
  have hb := dec_byte d (by omega)
  have hr := read_dec d (by omega)
  unfold wordS
  rw [show List.take 1 (112 :: decL d) = [112] from rfl, show List.drop 1 ((112 : UInt8) :: decL d) = decL d from rfl, if_neg (by simp [isCallL]; omega), if_pos rfl, hr, if_pos (by omega), Int.toNat_natCast, Nat.min_eq_left (by omega)]
theorem head_app (lo : 3 ≤ N) (hi8 : N ≤ 8) {s : Nat} {x : List UInt8} (m : Nat) (hx : ∀ j, j < m → x.getD j 0 = t0.getD (s + j) 0) : timesL (headTo N ch k t0 s) (headTo N ch k x m) = headTo N ch k t0 (s + m) := by
  induction m with
  | zero =>
    have hl := (headTo_row lo hi8 ch k t0 s).2
    have := times_rounds (a := headTo N ch k t0 s) (by omega)
    rw [hl] at this
    exact this
  | succ m ih =>
    have ih' := ih (fun j h => hx j (by omega))
    show timesL _ (timesL (headTo N ch k x m) (callHeadL N ch k [x.getD m 0])) = timesL (headTo N ch k t0 (s + m)) (callHeadL N ch k [t0.getD (s + m) 0])
    rw [← ih', ← times_assoc _ (callHeadL_row lo hi8 _ _ _) (by rw [(headTo_row lo hi8 ch k x m).2, callHeadL_len]), hx m (by omega)]
theorem rep_at {m j : Nat} {r : List UInt8} (h : j < m) : (List.replicate m (112 : UInt8) ++ r).getD j 0 = 112 := by
  rw [List.getD_eq_getElem?_getD, List.getElem?_append_left (by simpa using h)]
  simp [h]
theorem rep_end {m : Nat} {c : UInt8} : (List.replicate m (112 : UInt8) ++ [c]).getD m 0 = c := by
  rw [List.getD_eq_getElem?_getD, List.getElem?_append_right (by simp)]
  simp
theorem foldS_cal (lo : 3 ≤ N) (hi8 : N ≤ 8) (h60 : t0.length ≤ 60) (hc : t0.all callB = true) (i : Nat) (hi : i ≤ t0.length) :
    foldS N ch k bell (calSt (plP N ch k t0 bell) t0 i).2 ([], roundsL N) = some (t0.take (calSt (plP N ch k t0 bell) t0 i).1, headTo N ch k t0 (calSt (plP N ch k t0 bell) t0 i).1) := by
  induction i with
  | zero => rfl
  | succ i ih =>
    have ih' := ih (by omega)
    by_cases hp : t0.getD i 0 = 112
    · rw [calSt_p hp]; exact ih'
    · have hpl := cal_plain (t0 := t0) (plP N ch k t0 bell) i
      have hle := (calSt_le (plP N ch k t0 bell) t0 i).1
      rw [calSt_c hp]
      dsimp only
      rw [foldS_app _ _ _ _ ih']
      have hcl := calls_at hc (show i < t0.length by omega)
      have hw := wordS_item (N := N) (ch := ch) (k := k) (bell := bell) lo hi8 h60 (show i < t0.length by omega) hle hcl hp hpl
      generalize (calSt (plP N ch k t0 bell) t0 i).1 = s at *
      rw [foldS, stepS, hw]
      dsimp only
      have hl : (List.replicate (i - s) (112 : UInt8) ++ [t0.getD i 0]).length = i - s + 1 := by simp
      have hx : ∀ j, j < i - s + 1 → (List.replicate (i - s) (112 : UInt8) ++ [t0.getD i 0]).getD j 0 = t0.getD (s + j) 0 := by
        intro j hj
        by_cases h : j < i - s
        · rw [rep_at h, hpl (s + j) (by omega) (by omega)]
        · obtain rfl : j = i - s := by omega
          rw [rep_end, show s + (i - s) = i by omega]
      rw [hl, head_app lo hi8 _ hx, show s + (i - s + 1) = i + 1 by omega, if_neg (by rw [List.length_take]; omega)]
      rw [← List.append_assoc, take_rep _ (by omega) (fun j h1 h2 => hpl j h1 (by omega)), show s + (i - s) = i by omega, take_c (by omega)]
      rfl
theorem foldS_text (lo : 3 ≤ N) (hi8 : N ≤ 8) (hg : goodTouch t0 = true) : ∃ h, foldS N ch k bell (segsS 32 (calText (plP N ch k t0 bell) t0)) ([], roundsL N) = some (t0, h) := by
  simp only [goodTouch, Bool.and_eq_true, decide_eq_true_eq] at hg
  obtain ⟨⟨hc, h1⟩, h60⟩ := hg
  have hf := foldS_cal (N := N) (ch := ch) (k := k) (bell := bell) lo hi8 h60 hc t0.length (Nat.le_refl _)
  have hn := items_no32 (N := N) (ch := ch) (k := k) (bell := bell) lo hi8 h60 hc t0.length (Nat.le_refl _)
  have hpl := cal_plain (t0 := t0) (plP N ch k t0 bell) t0.length
  have hle := (calSt_le (plP N ch k t0 bell) t0 t0.length).1
  unfold calText
  rw [segsS_join 32 _ ?_ ?_]
  · unfold calItems
    by_cases hs : (calSt (plP N ch k t0 bell) t0 t0.length).1 = t0.length
    · rw [if_pos hs, List.append_nil, hf, hs, List.take_length]
      exact ⟨_, rfl⟩
    · rw [if_neg hs, foldS_app _ _ _ _ hf]
      rw [foldS, stepS, wordS_plain _ (by omega) (by omega)]
      dsimp only
      rw [if_neg (by rw [List.length_take, List.length_replicate]; omega)]
      dsimp only [foldS]
      rw [take_rep _ (by omega) (fun j h1 h2 => hpl j h1 (by omega)), show (calSt (plP N ch k t0 bell) t0 t0.length).1 + (t0.length - (calSt (plP N ch k t0 bell) t0 t0.length).1) = t0.length by omega, List.take_length]
      exact ⟨_, rfl⟩
  · unfold calItems
    by_cases hs : (calSt (plP N ch k t0 bell) t0 t0.length).1 = t0.length
    · rw [if_pos hs, List.append_nil]
      intro e
      have hf2 := hf
      rw [e, hs] at hf2
      rw [foldS] at hf2
      injection hf2 with hf2
      have := congrArg (fun q : List UInt8 × List UInt8 => q.1.length) hf2
      simp at this
      omega
    · rw [if_neg hs]; simp
  · intro x hx
    unfold calItems at hx
    rw [List.mem_append] at hx
    rcases hx with hx | hx
    · exact hn x hx
    · split at hx
      · cases hx
      · rw [List.mem_singleton] at hx
        subst hx
        have := (dec_byte (t0.length - (calSt (plP N ch k t0 bell) t0 t0.length).1) (by omega)).1
        simp [this]
theorem testB_def {t s : List UInt8} (h : testB N ch k bell t s = true) : goodTouch t = true ∧ calText (plP N ch k t bell) t = s := by
  unfold testB at h
  simpa using h
/-- Both readings answer alike. -/
theorem res_eq (lo : 3 ≤ N) (hi8 : N ≤ 8) (s : List UInt8) : resS N ch k bell s = resI N ch k bell s := by
  unfold resI
  by_cases h : testB N ch k bell (parseI N ch k bell s) s = true
  · rw [if_pos h]
    obtain ⟨hg, ht⟩ := testB_def h
    obtain ⟨f, hf⟩ := foldS_text (N := N) (ch := ch) (k := k) (bell := bell) lo hi8 hg
    rw [ht] at hf
    unfold resS
    rw [hf]
    dsimp only
    rw [if_pos h]
  · rw [if_neg h]
    unfold resS
    cases hf : foldS N ch k bell (segsS 32 s) ([], roundsL N) with
    | none => rfl
    | some q =>
      dsimp only
      by_cases h2 : testB N ch k bell q.1 s = true
      · exfalso
        obtain ⟨hg, ht⟩ := testB_def h2
        have := foldI_text (N := N) (ch := ch) (k := k) (bell := bell) lo hi8 hg
        rw [ht] at this
        rw [this] at h
        exact h h2
      · rw [if_neg h2]
end
end Go.Proofs.YtihaopijnkiafaaGreatDoor
