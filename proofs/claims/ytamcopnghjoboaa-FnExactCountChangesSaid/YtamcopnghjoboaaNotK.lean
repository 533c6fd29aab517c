/- Contract of the program's reader of place notation: a block. No conditions beyond those stated. -/
import Derived.Test.YtamcopnghjoboaaNotR2
set_option linter.unusedVariables false
set_option linter.unusedSimpArgs false
set_option maxRecDepth 100000
namespace Go.Proofs.Ytamcopnghjoboaa
open Go.RowKit

theorem endsB_iff (s : List UInt8) (a : Nat) : endsB s a = true ↔ (a = s.length ∨ s.getD a 0 = 44) := by simp [endsB]
theorem block_bad {N : Nat} {s : List UInt8} {f a : Nat} (h : badW N s a = true) : blockL N s (f + 1) a = ([], a, some a) := by rw [blockL, if_pos h]
theorem block_end {N : Nat} {s : List UInt8} {f a : Nat} (h : badW N s a = false) (he : endsB s (wEnd s a) = true) : blockL N s (f + 1) a = ([wordL N s a], wEnd s a, none) := by
  rw [blockL, if_neg (by rw [h]; simp), if_pos ((endsB_iff _ _).1 he)]
theorem block_on {N : Nat} {s : List UInt8} {f a : Nat} (h : badW N s a = false) (he : endsB s (wEnd s a) = false) {b : Nat} (hb : b = if s.getD (wEnd s a) 0 = 46 then wEnd s a + 1 else wEnd s a) : blockL N s (f + 1) a = (wordL N s a :: (blockL N s f b).1, (blockL N s f b).2) := by
  rw [blockL, if_neg (by rw [h]; simp), if_neg (fun h2 => by rw [(endsB_iff _ _).2 h2] at he; cases he), hb]
theorem badW_no {N : Nat} {s : List UInt8} {a : Nat} (h : badW N s a = false) : a < wEnd s a := by
  have := wEnd_ge s a
  simp [badW] at h
  omega
theorem own_setG {w : World} {base : Nat} {e : TypeId} {size : Nat} {v : Value} {n : Nat} {xs : List Value} {p : Addr} {u : Value} (h : w.ownsRow base e size v n xs) (hp : p.block < base) : (w.setCell p u).ownsRow base e size v n xs := by
  refine ⟨h.1, ?_⟩
  rcases h.2 with h | ⟨g, cap, cur, hv, hg, hh, r⟩
  · exact .inl h
  · exact .inr ⟨g, cap, cur, hv, hg, (Below.heap_setCell w p u g (by omega)).trans hh, r⟩
/-- What a block's reading answers: the changes, and where the reader stands; or where a change is wrong. -/
def BlockR (w : World) (G N : Nat) (s : List UInt8) (R : List (List UInt8) × Nat × Option Nat) (e : Ending) (w' : World) : Prop := ∃ v n xs, e = .returned v ∧ w'.ownsRow w.heap.size 9 1 v n xs ∧ w.grownBy w' (some G) ∧ (R.2.2 = none → n = R.1.length ∧ xs = strV R.1 ∧ NotB w' G N s R.2.1 (-1)) ∧ (∀ p, R.2.2 = some p → ∃ x, NotB w' G N s x (p : Int))
theorem blk_grown3 {X Y : World} {g : Nat} {t : TypeId} {cs : Array Value} {r : Option Nat} (g5 : X.grownBy Y r) (h : Blk X g t cs) (hne : r ≠ some g) : Blk Y g t cs :=
  (g5.block g h.lt (fun e => hne (by first | exact e.symm | exact e))).trans h
set_option maxHeartbeats 8000000 in
theorem block_any (G N : Nat) (s : List UInt8) (a : Nat) (w : World) (lo : 3 ≤ N) (hi : N ≤ 8) (h : NotB w G N s a (-1)) (ha : a ≤ s.length) (hs : s.length ≤ 1000) :
    Calls Try.prog 16 #[.pointer (some ⟨G, 0, none⟩)] w (BlockR w G N s (blockL N s (s.length + 1) a)) := by
  have HB := hid h
  have hGw := hid (Blk.lt h)
  obtain ⟨R, hR⟩ : ∃ R, blockL N s (s.length + 1) a = R := ⟨_, rfl⟩
  rw [hR]
  have HR0 := hid hR
  clear h hR
  go_enter Try.func16, Try.ntmps16
  go_wp2_with fail
  go_loopg [3] (s.length + 1) (fun gk u wr => ∃ (x : Nat) (acc : List (List UInt8)), x ≤ s.length ∧ s.length + 1 - x ≤ gk ∧ acc.length + gk ≤ s.length + 1 ∧ wr.ownsRow w.heap.size 9 1 u acc.length (strV acc) ∧ Hid (R = (acc ++ (blockL N s gk x).1, (blockL N s gk x).2)) ∧ NotB wr G N s x (-1) ∧ w.grownBy wr (some G))
  case atStart => exact ⟨a, [], ha, by omega, by simp, own_of_blk (Blk.new w 9 #[]) (Nat.le_refl _) (by simp [maxLen]), hid (by rw [← HR0.out]; simp), NotB.below HB.out ((Below.refl _ _).alloc (Nat.le_refl _) _), grown_of_below ((Below.refl _ _).alloc (Nat.le_refl _) _)⟩
  case round =>
    obtain ⟨x, acc, hx, hgk, hacc, ho, hr, hn, hg⟩ := hrel
    obtain ⟨A0, c0, rfl, _⟩ := own_shape ho
    obtain ⟨f, rfl⟩ : ∃ f, gk = f + 1 := ⟨gk - 1, by omega⟩
    have HN := hid hn
    have HG := hid hg
    have HO := hid ho
    have GCh := hid (change_any G N s x wr lo hi hn hx hs)
    obtain ⟨m0, m1, m2, m3⟩ := hn.cells
    have HX := hid hx
    have HK := hid hgk
    have HA := hid hacc
    have hlim : acc.length + 1 ≤ 1000000000000 := by omega
    have HEl := hid (wEnd_le s x hx)
    clear hn hg ho hx hgk hacc
    go_wp2_with fail
    refine GCh.out.mono ?_
    rintro e0 w1 ⟨rfl, n1, g1⟩
    have HN1 := hid n1
    have HG1 := hid (grown_one HG.out g1)
    have HO1 := hid (own_other HO.out g1 (fun q hq e => by have h1 := (HO.out.lt q hq).1; have h2 := hGw.out; injection e with e; omega))
    have hub := hid (fun q (hq : (Value.slice A0 acc.length c0).ownBlock = some q) => (HO.out.lt q hq).1)
    obtain ⟨Wd, hWd⟩ : ∃ Wd, wordL N s x = Wd := ⟨_, rfl⟩
    have HWd := hid hWd
    rw [hWd]
    have hw1s := HG1.out.size
    clear hWd n1 g1 m0 m1 m2 m3
    have hne5 := hid (show (Value.slice A0 acc.length c0).ownBlock ≠ some G from fun e => by have h1 := hub.out G e; have h2 := hGw.out; omega)
    cases hbad : badW N s x
    · have HN1 : Hid (NotB w1 G N s (wEnd s x) (-1)) := hid (by have := HN1.out; rw [hbad] at this; simpa using this)
      have HBAD := hid hbad
      clear hbad
      go_wp2_with (at_builtin; refine app_str _ (by rfl) _ _ (by rfl) w.heap.size _ _ _ (by rfl) (HO1.out.alloc _) (some ⟨w1.heap.size, 0, none⟩) 1 1 [Wd] (by rfl) (Rd.blk _ [.string (bs Wd)] _) hlim (by simp; omega) ?_; intro v5 w5 o5 g5; have B5 : w1.grownBy w5 (Value.slice A0 acc.length c0).ownBlock := grown_below ((Below.refl _ _).alloc (Nat.le_refl _) _) g5; have HN5 := hid (show NotB w5 G N s (wEnd s x) (-1) from blk_grown3 B5 HN1.out hne5.out); obtain ⟨m0, m1, m2, m3⟩ := NotB.cells HN5.out)
      have HG5 := hid (grown_new HG1.out B5 (fun q hq => hub.out q hq))
      have HO5 := hid o5
      have hbad := HBAD.out
      clear o5 g5 B5 hlim m0 m1 m2 m3
      have GE := hid (ends_any G N s (wEnd s x) w5 HN5.out HEl.out hs)
      obtain ⟨e, he⟩ : ∃ e, wEnd s x = e := ⟨_, rfl⟩
      have hxe := hid (show x < e by rw [← he]; exact badW_no hbad)
      rw [he] at HN5 GE HEl
      have HEE := hid he
      obtain ⟨m0, m1, m2, m3⟩ := HN5.out.cells
      clear he
      cases hend : endsB s e
      · rw [hend] at GE
        have hlt : e < s.length := by
          unfold endsB at hend
          simp only [Bool.or_eq_false_iff, decide_eq_false_iff_not] at hend
          have := HEl.out; omega
        obtain ⟨Y, hY⟩ : ∃ Y, s[e] = Y := ⟨_, rfl⟩
        have hgd := hid (show s.getD e 0 = Y by rw [← hY]; simp [List.getD, hlt])
        have j0 : (0 : Int) ≤ (e : Int) := by omega
        have j1 : (e : Int) < (s.length : Int) := by omega
        obtain ⟨B, hB⟩ : ∃ B, decide (Y = 46) = B := ⟨_, rfl⟩
        have e46 : ((Y.toNat : Int) == 46) = B := by rw [← hB]; exact byte_eqI Y 46 (by omega)
        have e46N : (Y.toNat == 46) = B := by rw [← e46, Bool.eq_iff_iff]; simp; omega
        have hwx := IntWalk.i64_in ((e : Int) + 1) (by omega)
        have HD := hid (show ∀ y : Nat, y = (if B = true then e + 1 else e) → R = ((acc ++ [Wd]) ++ (blockL N s f y).1, (blockL N s f y).2) from fun y hy => by
          rw [hr.out, block_on hbad (by rw [HEE.out]; exact hend) (b := y) (by rw [HEE.out, hgd.out, hy, ← hB]; by_cases h4 : Y = 46 <;> simp [h4]), HWd.out]
          simp)
        clear hend hbad hB
        go_wp2_with fail
        refine GE.out.mono ?_
        rintro e1 w6 ⟨rfl, rfl⟩
        have HN6 : Hid (NotB w5.drew G N s e (-1)) := hid (HN5.out.drewN 1)
        have HO6 := hid (own_drewN HO5.out 1)
        have HG6 := hid (grown_drewN HG5.out 1)
        clear m0 m1 m2 m3
        obtain ⟨m0, m1, m2, m3⟩ := HN6.out.cells
        go_wp2_with fail
        go_region_held3 (fun w' => w'.cell? ⟨G, 0, none⟩ = some (.int .i64 (N : Int)) ∧ w'.cell? ⟨G, 1, none⟩ = some (.string (bs s)) ∧ w'.cell? ⟨G, 2, none⟩ = some (.int .i64 (e : Int)) ∧ w'.cell? ⟨G, 3, none⟩ = some (.int .i64 (-1)))
          (first | exact HN6.out.cells | exact (HN6.out.drewN 1).cells)
          (fail)
        have HN7 : Hid (NotB w5.drew.drew G N s e (-1)) := hid (HN6.out.drewN 1)
        have HO7 : Hid (w5.drew.drew.ownsRow w.heap.size 9 1 v5 (acc.length + 1) (strV (acc ++ [Wd]))) := hid (own_drewN (own_drewN HO5.out 1) 1)
        have HG7 : Hid (w.grownBy w5.drew.drew (some G)) := hid (grown_drewN HG6.out 1)
        clear m0 m1 m2 m3 HN6 HO6 HG6 HN5 HO5 HG5 GE
        generalize w5.drew.drew = W7 at *
        have f2 := Blk.frozen HN7.out 2
        obtain ⟨q0, q1, q2, q3⟩ := HN7.out.cells
        cases B
        · go_wp2
          go_roundg f
          case measure => omega
          case rel => exact ⟨e, acc ++ [Wd], HEl.out, by have h1 := HK.out; have h2 := hxe.out; omega, by have h1 := HA.out; have h2 := HK.out; have h3 := HX.out; simp; omega, by have h := HO7.out; simpa using h, hid (HD.out e rfl), HN7.out, HG7.out⟩
        · go_wp2
          go_roundg f
          case measure => omega
          case rel => exact ⟨e + 1, acc ++ [Wd], by omega, by have h1 := HK.out; have h2 := hxe.out; omega, by have h1 := HA.out; have h2 := HK.out; have h3 := HX.out; simp; omega, by have h := own_setG (p := ⟨G, 2, none⟩) (u := .int .i64 (((e + 1 : Nat)) : Int)) HO7.out hGw.out; simpa using h, hid (HD.out (e + 1) rfl), by have h := NotB.at_ HN7.out (e + 1); simpa using h, by have h := grown_set (o := 2) (v := .int .i64 ((e : Int) + 1)) HG7.out; exact h⟩
      · rw [hend] at GE
        have HRE := hid (show R = (acc ++ [Wd], e, none) by rw [hr.out, block_end hbad (by rw [HEE.out]; exact hend), HWd.out, HEE.out])
        clear hend hbad
        go_wp2_with fail
        refine GE.out.mono ?_
        rintro e1 w6 ⟨rfl, rfl⟩
        go_wp2
        go_ret
        rw [HRE.out]
        exact ⟨_, _, _, rfl, own_drewN HO5.out 1, grown_drewN HG5.out 1, (fun _ => ⟨by simp, rfl, HN5.out.drewN 1⟩), (fun p hp => by cases hp)⟩
    · have HN1 : Hid (NotB w1 G N s (wEnd s x) (x : Int)) := hid (by have := HN1.out; rw [hbad] at this; simpa using this)
      have HRB := hid (show R = (acc ++ [], x, some x) by rw [hr.out, block_bad hbad])
      have k0 : (0 : Int) ≤ (x : Int) := by omega
      clear hbad
      go_wp2_with (at_builtin; refine app_str _ (by rfl) _ _ (by rfl) w.heap.size _ _ _ (by rfl) (HO1.out.alloc _) (some ⟨w1.heap.size, 0, none⟩) 1 1 [Wd] (by rfl) (Rd.blk _ [.string (bs Wd)] _) hlim (by simp; omega) ?_; intro v5 w5 o5 g5; have B5 : w1.grownBy w5 (Value.slice A0 acc.length c0).ownBlock := grown_below ((Below.refl _ _).alloc (Nat.le_refl _) _) g5; have HN5 := hid (show NotB w5 G N s (wEnd s x) (x : Int) from blk_grown3 B5 HN1.out hne5.out); obtain ⟨m0, m1, m2, m3⟩ := NotB.cells HN5.out)
      go_ret
      rw [HRB.out]
      exact ⟨_, _, _, rfl, o5, grown_new HG1.out B5 (fun q hq => hub.out q hq), (fun h => by cases h), (fun p hp => by cases hp; exact ⟨_, HN5.out⟩)⟩
end Go.Proofs.Ytamcopnghjoboaa
