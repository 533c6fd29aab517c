/- Plain laws of the reading of a calling: both readings find the one touch whose calling it is. No conditions beyond those stated. -/
import Derived.Test.YtihaopijnkiafaaGreatDoorRdP
set_option linter.unusedVariables false
set_option linter.unusedSimpArgs false
set_option maxRecDepth 100000
namespace Go.Proofs.YtihaopijnkiafaaGreatDoor
open Go.RowKit

/-- An item, as the program reads it: its call, its number, the number behind +, whether it is one. -/
def itemF (it : List UInt8) : List UInt8 × Nat × Nat × Bool :=
  if it = [] then ([], 0, 0, false)
  else if ((Lib.cut (it.drop 1) [43]).2.2 && (numF 2 (Lib.cut (it.drop 1) [43]).1).2) = true then (it.take 1, (numF 2 (Lib.cut (it.drop 1) [43]).1).1, (numF 2 (Lib.cut (it.drop 1) [43]).2.1).1, (numF 2 (Lib.cut (it.drop 1) [43]).2.1).2)
  else (it.take 1, (numF 2 (Lib.cut (it.drop 1) [43]).1).1, 0, (numF 2 (Lib.cut (it.drop 1) [43]).1).2)
section
variable (N : Nat) (ch : List (List UInt8)) (k : List UInt8 × List UInt8) (bell : Int)
/-- The program's loop over plain leads. -/
def loopI (call : List UInt8) (n : Nat) : Nat → List UInt8 → List UInt8 → Nat → Option (List UInt8 × List UInt8)
  | 0, _, _, _ => none
  | f + 1, t, h, ps =>
    if placeL (timesL h (callHeadL N ch k call)) bell = n then
      if ps = 0 then some (t, timesL h (callHeadL N ch k call))
      else if 60 ≤ t.length + 1 then none else loopI call n f (t ++ [112]) (timesL h (callHeadL N ch k [112])) (ps - 1)
    else if 60 ≤ t.length + 1 then none else loopI call n f (t ++ [112]) (timesL h (callHeadL N ch k [112])) ps
def stepI (st : List UInt8 × List UInt8) (it : List UInt8) : Option (List UInt8 × List UInt8) :=
  if ((itemF it).2.2.2 && isCallL (itemF it).1) = false then none
  else if (itemF it).1 = [112] then some (st.1 ++ List.replicate (itemF it).2.1 112, st.2)
  else match loopI N ch k bell (itemF it).1 (itemF it).2.1 (60 - st.1.length + 1) st.1 st.2 (itemF it).2.2.1 with
    | none => none
    | some q => some (q.1 ++ (itemF it).1, q.2)
def foldI : List (List UInt8) → List UInt8 × List UInt8 → Option (List UInt8 × List UInt8)
  | [], st => some st
  | it :: r, st => match stepI N ch k bell st it with
    | none => none
    | some st' => foldI r st'
/-- What the program's reading finds. -/
def parseI (s : List UInt8) : List UInt8 := match foldI N ch k bell (segsI 32 s) ([], roundsL N) with
  | none => []
  | some q => q.1
/-- The reference's loop over plain leads. -/
def loopS (call : List UInt8) (n : Int) : Nat → List UInt8 → List UInt8 → Int → Option (List UInt8)
  | 0, _, _, _ => none
  | f + 1, out, fr, sk =>
    if (placeL (timesL fr (callHeadL N ch k call)) bell : Int) = n then
      if sk = 0 then some (out ++ call) else loopS call n f (out ++ [112]) (timesL fr (callHeadL N ch k [112])) (sk - 1)
    else loopS call n f (out ++ [112]) (timesL fr (callHeadL N ch k [112])) sk
def wordS (fr wd : List UInt8) : Option (List UInt8) :=
  if (decide (wd.length < 2) || !isCallL (wd.take 1)) = true then none
  else if wd.take 1 = [112] then (if 0 < readF (wd.drop 1) then some (List.replicate (min (readF (wd.drop 1)).toNat 61) 112) else none)
  else loopS N ch k bell (wd.take 1) (readF ((segsS 43 (wd.drop 1)).getD 0 [])) 60 [] fr (if (segsS 43 (wd.drop 1)).length = 2 then readF ((segsS 43 (wd.drop 1)).getD 1 []) else 0)
def stepS (st : List UInt8 × List UInt8) (wd : List UInt8) : Option (List UInt8 × List UInt8) := match wordS N ch k bell st.2 wd with
  | none => none
  | some x => if 60 < st.1.length + x.length then none else some (st.1 ++ x, timesL st.2 (headTo N ch k x x.length))
def foldS : List (List UInt8) → List UInt8 × List UInt8 → Option (List UInt8 × List UInt8)
  | [], st => some st
  | it :: r, st => match stepS N ch k bell st it with
    | none => none
    | some st' => foldS r st'
def testB (t s : List UInt8) : Bool := goodTouch t && (calText (plP N ch k t bell) t == s)
/-- What the reading of a calling answers, in the program and in the reference. -/
def resI (s : List UInt8) : List UInt8 × Bool := if testB N ch k bell (parseI N ch k bell s) s = true then (parseI N ch k bell s, true) else ([], false)
def resS (s : List UInt8) : List UInt8 × Bool := match foldS N ch k bell (segsS 32 s) ([], roundsL N) with
  | none => ([], false)
  | some q => if testB N ch k bell q.1 s = true then (q.1, true) else ([], false)
end
section
variable {N : Nat} {ch : List (List UInt8)} {k : List UInt8 × List UInt8} {bell : Int}
theorem foldI_app (a b : List (List UInt8)) (st st' : List UInt8 × List UInt8) (h : foldI N ch k bell a st = some st') : foldI N ch k bell (a ++ b) st = foldI N ch k bell b st' := by
  induction a generalizing st with
  | nil => injection h with h; rw [← h]; rfl
  | cons x a ih =>
    rw [List.cons_append, foldI]
    rw [foldI] at h
    cases hs : stepI N ch k bell st x with
    | none => rw [hs] at h; cases h
    | some q => rw [hs] at h; exact ih q h
theorem foldS_app (a b : List (List UInt8)) (st st' : List UInt8 × List UInt8) (h : foldS N ch k bell a st = some st') : foldS N ch k bell (a ++ b) st = foldS N ch k bell b st' := by
  induction a generalizing st with
  | nil => injection h with h; rw [← h]; rfl
  | cons x a ih =>
    rw [List.cons_append, foldS]
    rw [foldS] at h
    cases hs : stepS N ch k bell st x with
    | none => rw [hs] at h; cases h
    | some q => rw [hs] at h; exact ih q h
theorem cntTo_cons (P : Nat → UInt8 → Nat) (c : UInt8) (a s d : Nat) : cntTo P c a s (d + 1) = (if P s c = a then 1 else 0) + cntTo P c a (s + 1) d := by
  induction d with
  | zero => simp [cntTo]
  | succ d ih =>
    rw [cntTo, ih, cntTo, show s + 1 + d = s + (d + 1) by omega]
    omega
variable {t0 : List UInt8}
theorem take_p {s : Nat} (hs : s < t0.length) (hp : t0.getD s 0 = 112) : t0.take s ++ [112] = t0.take (s + 1) := by
  rw [List.take_succ_eq_append_getElem hs]
  congr 2
  rw [← hp]; simp [hs]
/-- The program's loop reads the plain leads up to a call. -/
theorem loopI_run (h60 : t0.length ≤ 60) {i : Nat} (hi : i < t0.length) (c : UInt8) (m s : Nat) (hm : s + m = i) (hp : ∀ j, s ≤ j → j < i → t0.getD j 0 = 112) :
    loopI N ch k bell [c] (plP N ch k t0 bell i c) (60 - (t0.take s).length + 1) (t0.take s) (headTo N ch k t0 s) (cntTo (plP N ch k t0 bell) c (plP N ch k t0 bell i c) s m) = some (t0.take i, timesL (headTo N ch k t0 i) (callHeadL N ch k [c])) := by
  induction m generalizing s with
  | zero =>
    obtain rfl : s = i := by omega
    rw [loopI, if_pos (show placeL (timesL (headTo N ch k t0 s) (callHeadL N ch k [c])) bell = plP N ch k t0 bell s c from rfl), if_pos (show cntTo (plP N ch k t0 bell) c (plP N ch k t0 bell s c) s 0 = 0 from rfl)]
  | succ m ih =>
    have hsl : (t0.take s).length = s := by rw [List.length_take]; omega
    have hs1 : (t0.take (s + 1)).length = s + 1 := by rw [List.length_take]; omega
    have hps := hp s (Nat.le_refl _) (by omega)
    have ih' := ih (s + 1) (by omega) (fun j h1 h2 => hp j (by omega) h2)
    rw [hs1, show 60 - (s + 1) + 1 = 60 - s by omega] at ih'
    have hn : ¬ 60 ≤ (t0.take s).length + 1 := by omega
    have hh : timesL (headTo N ch k t0 s) (callHeadL N ch k [112]) = headTo N ch k t0 (s + 1) := by rw [headTo, hps]
    rw [loopI, cntTo_cons, if_neg hn, if_neg hn, take_p (by omega) hps, hh, hsl]
    by_cases hpl : plP N ch k t0 bell s c = plP N ch k t0 bell i c
    · rw [if_pos (show placeL (timesL (headTo N ch k t0 s) (callHeadL N ch k [c])) bell = _ from hpl), if_pos hpl, if_neg (by omega), Nat.add_sub_cancel_left]
      exact ih'
    · rw [if_neg (show ¬ placeL (timesL (headTo N ch k t0 s) (callHeadL N ch k [c])) bell = _ from hpl), if_neg hpl, Nat.zero_add]
      exact ih'
/-- The reference's loop the like. -/
theorem loopS_run (h60 : t0.length ≤ 60) {i : Nat} (hi : i < t0.length) (c : UInt8) (m s : Nat) (hm : s + m = i) (hp : ∀ j, s ≤ j → j < i → t0.getD j 0 = 112) (out : List UInt8) (ho : out.length + m < 60) (f : Nat) (hf : f = 60 - out.length) :
    loopS N ch k bell [c] (plP N ch k t0 bell i c : Int) f out (headTo N ch k t0 s) (cntTo (plP N ch k t0 bell) c (plP N ch k t0 bell i c) s m : Int) = some (out ++ (List.replicate m 112 ++ [c])) := by
  induction m generalizing s out f with
  | zero =>
    obtain rfl : s = i := by omega
    obtain ⟨g, rfl⟩ : ∃ g, f = g + 1 := ⟨f - 1, by omega⟩
    rw [loopS, if_pos (show ((placeL (timesL (headTo N ch k t0 s) (callHeadL N ch k [c])) bell : Nat) : Int) = (plP N ch k t0 bell s c : Nat) from rfl), if_pos (show ((cntTo (plP N ch k t0 bell) c (plP N ch k t0 bell s c) s 0 : Nat) : Int) = 0 from rfl)]
    rfl
  | succ m ih =>
    have hps := hp s (Nat.le_refl _) (by omega)
    obtain ⟨g, rfl⟩ : ∃ g, f = g + 1 := ⟨f - 1, by omega⟩
    have ih' := ih (s + 1) (by omega) (fun j h1 h2 => hp j (by omega) h2) (out ++ [112]) (by simp; omega) g (by simp; omega)
    have hh : timesL (headTo N ch k t0 s) (callHeadL N ch k [112]) = headTo N ch k t0 (s + 1) := by rw [headTo, hps]
    have hr : out ++ (List.replicate (m + 1) 112 ++ [c]) = out ++ [112] ++ (List.replicate m 112 ++ [c]) := by rw [List.replicate_succ]; simp
    rw [loopS, cntTo_cons, hh, hr]
    by_cases hpl : plP N ch k t0 bell s c = plP N ch k t0 bell i c
    · rw [if_pos (show ((placeL (timesL (headTo N ch k t0 s) (callHeadL N ch k [c])) bell : Nat) : Int) = _ by exact congrArg Int.ofNat hpl), if_pos hpl, if_neg (by omega), show ((1 + cntTo (plP N ch k t0 bell) c (plP N ch k t0 bell i c) (s + 1) m : Nat) : Int) - 1 = (cntTo (plP N ch k t0 bell) c (plP N ch k t0 bell i c) (s + 1) m : Nat) by omega]
      exact ih'
    · rw [if_neg (show ¬ ((placeL (timesL (headTo N ch k t0 s) (callHeadL N ch k [c])) bell : Nat) : Int) = _ by intro e; exact hpl (Int.ofNat.inj e)), if_neg hpl, Nat.zero_add]
      exact ih'
theorem itemF_item {P : Nat → UInt8 → Nat} {t : List UInt8} {i s : Nat} (ha : P i (t.getD i 0) < 100) (hq : cntTo P (t.getD i 0) (P i (t.getD i 0)) s (i - s) < 100) :
    itemF (itemL P t i s) = ([t.getD i 0], P i (t.getD i 0), cntTo P (t.getD i 0) (P i (t.getD i 0)) s (i - s), true) := by
  unfold itemL
  generalize cntTo P (t.getD i 0) (P i (t.getD i 0)) s (i - s) = q at *
  generalize P i (t.getD i 0) = a at *
  generalize t.getD i 0 = c
  have h1 := dec_byte a ha
  unfold itemF
  rw [if_neg (by simp)]
  simp only [List.drop_succ_cons, List.drop_zero, List.take_succ_cons, List.take_zero]
  by_cases h0 : q = 0
  · subst h0
    rw [if_pos rfl, List.append_nil, cut_no h1.2.1]
    simp [num_dec a ha]
  · rw [if_neg h0, cut_yes h1.2.1]
    simp [num_dec a ha, num_dec q hq]
theorem take_c {i : Nat} (hi : i < t0.length) : t0.take i ++ [t0.getD i 0] = t0.take (i + 1) := by
  rw [List.take_succ_eq_append_getElem hi]
  congr 2
  simp [hi]
theorem take_rep {s : Nat} (m : Nat) (hm : s + m ≤ t0.length) (hp : ∀ j, s ≤ j → j < s + m → t0.getD j 0 = 112) : t0.take s ++ List.replicate m 112 = t0.take (s + m) := by
  induction m with
  | zero => simp
  | succ m ih =>
    rw [List.replicate_succ', ← List.append_assoc, ih (by omega) (fun j h1 h2 => hp j h1 (by omega)), take_p (by omega) (hp (s + m) (by omega) (by omega)), Nat.add_assoc]
theorem cal_plain (P : Nat → UInt8 → Nat) (i : Nat) : ∀ j, (calSt P t0 i).1 ≤ j → j < i → t0.getD j 0 = 112 := by
  induction i with
  | zero => intro j _ h; omega
  | succ i ih =>
    intro j h1 h2
    by_cases hc : t0.getD i 0 = 112
    · rw [calSt_p hc] at h1
      by_cases hj : j = i
      · rw [hj]; exact hc
      · exact ih j h1 (by omega)
    · rw [calSt_c hc] at h1
      dsimp only at h1
      omega
theorem call_byte {c : UInt8} (h : callB c = true) : c ≠ 32 := by
  rintro rfl; revert h; decide
theorem calls_at (hc : t0.all callB = true) {i : Nat} (hi : i < t0.length) : callB (t0.getD i 0) = true := by
  rw [List.all_eq_true] at hc
  have := hc _ (List.getElem_mem hi)
  simpa [hi] using this
theorem item_no32 {P : Nat → UInt8 → Nat} {i s : Nat} (hc : callB (t0.getD i 0) = true) (ha : P i (t0.getD i 0) < 100) (hq : cntTo P (t0.getD i 0) (P i (t0.getD i 0)) s (i - s) < 100) : (32 : UInt8) ∉ itemL P t0 i s := by
  have h1 := (dec_byte _ ha).1
  have h2 := (dec_byte _ hq).1
  have h3 := call_byte hc
  unfold itemL
  generalize cntTo P (t0.getD i 0) (P i (t0.getD i 0)) s (i - s) = q at *
  generalize P i (t0.getD i 0) = a at *
  generalize t0.getD i 0 = c at *
  split
  · simp [h1, Ne.symm h3]
  · simp [h1, h2, Ne.symm h3]
theorem pl_lt (lo : 3 ≤ N) (hi : N ≤ 8) (i : Nat) (c : UInt8) : plP N ch k t0 bell i c < 100 := by
  have := placeL_le (timesL (headTo N ch k t0 i) (callHeadL N ch k [c])) bell
  rw [times_len, callHeadL_len] at this
  unfold plP; omega
theorem items_no32 (lo : 3 ≤ N) (hi8 : N ≤ 8) (h60 : t0.length ≤ 60) (hc : t0.all callB = true) (i : Nat) (hi : i ≤ t0.length) : ∀ x ∈ (calSt (plP N ch k t0 bell) t0 i).2, (32 : UInt8) ∉ x := by
  induction i with
  | zero => simp [calSt]
  | succ i ih =>
    by_cases hp : t0.getD i 0 = 112
    · rw [calSt_p hp]; exact ih (by omega)
    · rw [calSt_c hp]
      intro x hx
      simp only [List.mem_append, List.mem_singleton] at hx
      rcases hx with hx | rfl
      · exact ih (by omega) x hx
      · have h1 := cntTo_le (plP N ch k t0 bell) (t0.getD i 0) (plP N ch k t0 bell i (t0.getD i 0)) (calSt (plP N ch k t0 bell) t0 i).1 (i - (calSt (plP N ch k t0 bell) t0 i).1)
        exact item_no32 (calls_at hc (by omega)) (pl_lt lo hi8 _ _) (by omega)
theorem foldI_cal (lo : 3 ≤ N) (hi8 : N ≤ 8) (h60 : t0.length ≤ 60) (hc : t0.all callB = true) (i : Nat) (hi : i ≤ t0.length) :
    foldI N ch k bell (calSt (plP N ch k t0 bell) t0 i).2 ([], roundsL N) = some (t0.take (calSt (plP N ch k t0 bell) t0 i).1, headTo N ch k t0 (calSt (plP N ch k t0 bell) t0 i).1) := by
  induction i with
  | zero => rfl
  | succ i ih =>
    have ih' := ih (by omega)
    by_cases hp : t0.getD i 0 = 112
    · rw [calSt_p hp]; exact ih'
    · have hpl := cal_plain (t0 := t0) (plP N ch k t0 bell) i
      have hle := (calSt_le (plP N ch k t0 bell) t0 i).1
      rw [calSt_c hp]
      dsimp only
      rw [foldI_app _ _ _ _ ih']
      have hcl := calls_at hc (show i < t0.length by omega)
      have hcn := cntTo_le (plP N ch k t0 bell) (t0.getD i 0) (plP N ch k t0 bell i (t0.getD i 0)) (calSt (plP N ch k t0 bell) t0 i).1 (i - (calSt (plP N ch k t0 bell) t0 i).1)
      have hit := itemF_item (P := plP N ch k t0 bell) (t := t0) (i := i) (s := (calSt (plP N ch k t0 bell) t0 i).1) (pl_lt lo hi8 _ _) (by omega)
      have hrun := loopI_run (N := N) (ch := ch) (k := k) (bell := bell) h60 (show i < t0.length by omega) (t0.getD i 0) (i - (calSt (plP N ch k t0 bell) t0 i).1) (calSt (plP N ch k t0 bell) t0 i).1 (by omega) hpl
      rw [foldI, stepI, hit]
      dsimp only
      rw [if_neg (by rw [isCallL_one, hcl]; simp), if_neg (by simpa using hp), hrun]
      dsimp only
      rw [take_c (by omega)]
      rfl
theorem foldI_text (lo : 3 ≤ N) (hi8 : N ≤ 8) (hg : goodTouch t0 = true) : parseI N ch k bell (calText (plP N ch k t0 bell) t0) = t0 := by
  simp only [goodTouch, Bool.and_eq_true, decide_eq_true_eq] at hg
  obtain ⟨⟨hc, h1⟩, h60⟩ := hg
  have hf := foldI_cal (N := N) (ch := ch) (k := k) (bell := bell) lo hi8 h60 hc t0.length (Nat.le_refl _)
  have hn := items_no32 (N := N) (ch := ch) (k := k) (bell := bell) lo hi8 h60 hc t0.length (Nat.le_refl _)
  have hpl := cal_plain (t0 := t0) (plP N ch k t0 bell) t0.length
  have hle := (calSt_le (plP N ch k t0 bell) t0 t0.length).1
  unfold parseI calText
  rw [segsI_join 32 _ ?_ ?_]
  · unfold calItems
    by_cases hs : (calSt (plP N ch k t0 bell) t0 t0.length).1 = t0.length
    · rw [if_pos hs, List.append_nil, hf, hs]
      dsimp only
      rw [List.take_length]
    · rw [if_neg hs, foldI_app _ _ _ _ hf]
      have hd : t0.length - (calSt (plP N ch k t0 bell) t0 t0.length).1 < 100 := by omega
      have hb := dec_byte _ hd
      have hit : itemF (112 :: decL (t0.length - (calSt (plP N ch k t0 bell) t0 t0.length).1)) = ([112], t0.length - (calSt (plP N ch k t0 bell) t0 t0.length).1, 0, true) := by
        unfold itemF
        rw [if_neg (by simp)]
        simp only [List.drop_succ_cons, List.drop_zero, List.take_succ_cons, List.take_zero]
        rw [cut_no hb.2.1]
        simp [num_dec _ hd]
      rw [foldI, stepI, hit]
      dsimp only
      rw [if_neg (by decide), if_pos rfl]
      dsimp only [foldI]
      rw [take_rep _ (by omega) (fun j h1 h2 => hpl j h1 (by omega)), show (calSt (plP N ch k t0 bell) t0 t0.length).1 + (t0.length - (calSt (plP N ch k t0 bell) t0 t0.length).1) = t0.length by omega, List.take_length]
  · unfold calItems
    by_cases hs : (calSt (plP N ch k t0 bell) t0 t0.length).1 = t0.length
    · rw [if_pos hs, List.append_nil]
      intro e
      have hf2 := hf
      rw [e, hs] at hf2
      rw [foldI] at hf2
      injection hf2 with hf2
      have := congrArg (fun q : List UInt8 × List UInt8 => q.1.length) hf2
      simp at this
      omega
    · rw [if_neg hs]; simp
  · intro x hx
    unfold calItems at hx
    rw [List.mem_append] at hx
    rcases hx with hx | hx
    · exact hn x hx
    · split at hx
      · cases hx
      · rw [List.mem_singleton] at hx
        subst hx
        have := (dec_byte (t0.length - (calSt (plP N ch k t0 bell) t0 t0.length).1) (by omega)).1
        simp [this]
end
end Go.Proofs.YtihaopijnkiafaaGreatDoor
