/- Contracts: a row of a stage; the rows that two leads share, in the reference. No conditions beyond those stated. -/
import Derived.Test.YtnkpbahapaocbaaLeadT
import Derived.Test.YtnkpbahapaocbaaRow1
set_option linter.unusedVariables false
set_option linter.unusedSimpArgs false
set_option maxRecDepth 100000
namespace Go.Proofs.Ytnkpbahapaocbaa
open Go.RowKit

/-- f is a row of stage n. -/
def rowOfB (n : Int) (f : List UInt8) : Bool := decide ((f.length : Int) = n) && rowB f
theorem rowOfB_row {N : Nat} {f : List UInt8} (h : rowOfB (N : Int) f = true) : IsRow f ∧ f.length = N := by
  simp only [rowOfB, Bool.and_eq_true, decide_eq_true_eq] at h
  exact ⟨(rowB_iff f).1 h.2, by omega⟩
theorem l11Shared_any (N : Nat) (nm f : List UInt8) (cs : List (List UInt8)) (A : Option Addr) (n c : Nat) (w : World) (lo : 3 ≤ N) (hi : N ≤ 8) (hr : Rd w A n (strV cs)) (hn : n ≤ 1048576) (hs : ∀ x ∈ cs, okChange (N : Int) x = true) (hf : IsRow f) (hN : f.length = N) :
    Calls Try.prog 65 #[.agg #[.string (bs nm), .int .i64 N, .slice A n c], .string (bs f)] w (OneS w (meetL (leadL (roundsL N) cs) (leadL f cs))) := by
  have HR := fun w0 => hid (l1Rounds_any N w0 hi)
  have HU := fun (w0 : World) (rd : Rd w0 A n (strV cs)) => hid (l11Lead_any N nm (roundsL N) (N : Int) cs A n c w0 (rounds_row lo hi) (rounds_len N) rd hn hs)
  have HF := fun (w0 : World) (rd : Rd w0 A n (strV cs)) => hid (l11Lead_any N nm f (N : Int) cs A n c w0 hf hN rd hn hs)
  have hl : cs.length = n := by have := hr.1; rw [strV_len] at this; exact this
  have hx : (leadL (roundsL N) cs).length = n := by rw [lead_len, hl]
  have hy : (leadL f cs).length = n := by rw [lead_len, hl]
  have RS := hid hr
  clear hr hs hl
  generalize leadL (roundsL N) cs = X at *
  generalize leadL f cs = Y at *
  have HX := hid hx
  have HY := hid hy
  clear hx hy
  go_enter Try.func65, Try.ntmps65
  go_wp2_with fail
  obtain ⟨B2, hsz, HC⟩ := box_mk1 34 w nm (N : Int) (.slice A n c)
  have R2 := hid (RS.out.below B2)
  have HB2 := hid B2
  have hw2 := B2.size
  generalize (w.alloc (.cells #[.string (bs nm), .int .i64 (N : Int), .slice A n c] 34)) = W2 at *
  clear B2 hsz
  have HS3 : ∀ W', Below W2.heap.size W2 W' → W'.cell? ⟨w.heap.size, 0, none⟩ = some (.string (bs nm)) ∧ W'.cell? ⟨w.heap.size, 1, none⟩ = some (.int .i64 (N : Int)) ∧ W'.cell? ⟨w.heap.size, 2, none⟩ = some (.slice A n c) := fun W' h => by
    obtain ⟨a0, a1, a2⟩ := HC.out _ h
    exact ⟨a0, a1, a2⟩
  have HHS := hid HS3
  clear HS3 HC
  refine (HF _ R2.out).out.mono ?_
  rintro e w3 ⟨v3, rfl, o3, b3⟩
  obtain ⟨A3, c3, rfl, _, _, rd3, _⟩ := own_shape o3
  have HB3 := hid b3
  have RD3 := hid rd3
  have hw3 := b3.size
  clear o3 b3 rd3
  obtain ⟨n0, n1, n2⟩ := HHS.out _ HB3.out
  go_wp2_with fail
  go_region_held3 (fun w' => w'.cell? ⟨w.heap.size, 0, none⟩ = some (.string (bs nm)) ∧ w'.cell? ⟨w.heap.size, 1, none⟩ = some (.int .i64 (N : Int)) ∧ w'.cell? ⟨w.heap.size, 2, none⟩ = some (.slice A n c))
    (first | exact HHS.out _ HB3.out | exact HHS.out _ HB3.out.drew | exact HHS.out _ Fa)
    (first | (go_at_call 47; refine (HR _).out.mono ?_; rintro e w' ⟨rfl, rfl⟩) | (go_at_call 73; refine (HU _ (R2.out.below HB3.out.drew)).out.mono ?_; rintro e wa ⟨va, rfl, oa, ba⟩; obtain ⟨Aa, ca, rfl, _, _, rda, _⟩ := own_shape oa; have Fa := HB3.out.drew.trans (ba.mono HB3.out.size)))
  have HFa := hid Fa
  have RDa := hid rda
  have RD3a := hid (RD3.out.below ((Below.refl w3.heap.size w3).drew.trans ba))
  have hwa := ba.size
  clear oa ba rda Fa n0 n1 n2
  have hxb : X.length ≤ 1048576 := by rw [HX.out]; exact hn
  go_wp2_with fail
  go_loopg [6, 18] X.length (fun gk u v wr => ∃ j : Nat, j ≤ X.length ∧ gk = X.length - j ∧ v = .int .i64 j ∧ wr.ownsRow wa.heap.size 9 1 u (meetL (X.take j) Y).length (strV (meetL (X.take j) Y)) ∧ Below wa.heap.size wa wr)
  case atStart => exact ⟨0, by omega, by omega, rfl, World.ownsRow_nil _ _ _ _, Below.refl _ _⟩
  case round =>
    obtain ⟨j, hj, rfl, rfl, ho, hb⟩ := hrel
    by_cases hlt : j < X.length
    · obtain ⟨b', o', rfl, hj', hc⟩ := (RDa.out.below hb).str hlt
      have hk0 : (0 : Int) ≤ (j : Int) := by omega
      have hk1 : (j : Int) < (X.length : Int) := by omega
      have hml : (meetL (X.take j) Y).length ≤ n := Nat.le_trans (meetL_len _ _) (by rw [List.length_take, HX.out]; omega)
      have HHas := hid (fun w0 rd0 => l1HasS_any A3 Y.length c3 Y X[j] w0 rd0 (by rw [HY.out]; exact hn))
      have HO2 := hid ho
      have HB4 := hid hb
      have hb4 := hb.size
      have RD4 := hid (RD3a.out.below hb)
      clear ho hb
      cases hm : memB X[j] Y
      · have HM := hid (meetL_no hj' hm)
        have HM2 := hid hm
        clear hm
        go_wp2_with fail
        refine (HHas.out _ RD4.out).mono ?_
        rintro e w' ⟨rfl, rfl⟩
        rw [HM2.out]
        go_wp2
        go_roundg (X.length - (j + 1))
        case measure => omega
        case rel => exact ⟨j + 1, by omega, rfl, by go_num, by rw [← HM.out]; exact HO2.out, HB4.out⟩
      · have HM := hid (meetL_yes hj' hm)
        have HM2 := hid hm
        clear hm
        obtain ⟨Z, hZ⟩ : ∃ Z, Z = X[j] := ⟨_, rfl⟩
        obtain ⟨q, hq⟩ : ∃ q, q = (meetL (X.take j) Y).length := ⟨_, rfl⟩
        have HLN := hid (show q + 1 = (meetL (X.take (j + 1)) Y).length by rw [← HM.out, hq]; simp)
        rw [← hZ] at HM hc HHas HM2
        rw [← hq] at HO2 hml
        clear hZ hq
        have hlim : q + 1 ≤ 1000000000000 := by omega
        go_wp2_with fail
        refine (HHas.out _ RD4.out).mono ?_
        rintro e w' ⟨rfl, rfl⟩
        rw [HM2.out]
        go_wp2_with (at_builtin; refine app_str _ (by rfl) _ _ (by rfl) wa.heap.size _ _ _ (by rfl) (HO2.out.alloc _) (some ⟨wr.heap.size, 0, none⟩) 1 1 [Z] (by rfl) (Rd.blk _ [.string (bs Z)] _) hlim (by simp; omega) ?_; intro v5 w5 o5 g5)
        go_roundg (X.length - (j + 1))
        case measure => omega
        case rel =>
          rw [HM.out, HLN.out] at o5
          exact ⟨j + 1, by omega, rfl, by go_num, o5, (HB4.out.alloc (by omega) _).grown g5 (by simp; omega) fun q hq => (HO2.out.lt q hq).1⟩
    · obtain rfl : j = X.length := by omega
      rw [List.take_of_length_le (Nat.le_refl _)] at ho
      have HO2 := hid ho
      clear ho
      go_wp2
      go_ret
      exact ⟨_, rfl, own_mono HO2.out (Nat.le_trans hw2 HFa.out.size), HB2.out.trans ((HFa.out.trans (hb.mono HFa.out.size)).mono hw2)⟩
end Go.Proofs.Ytnkpbahapaocbaa
