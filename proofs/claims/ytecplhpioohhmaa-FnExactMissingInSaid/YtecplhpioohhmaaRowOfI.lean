/- Contract of the row with a rank, in the program. No conditions beyond those stated. -/
import Derived.Test.YtecplhpioohhmaaRowOf
import Derived.Test.YtecplhpioohhmaaApp
import Derived.Deep.RegionLaw
set_option linter.unusedVariables false
set_option linter.unusedSimpArgs false
set_option maxRecDepth 100000
namespace Go.Proofs.Ytecplhpioohhmaa
open Go.RowKit

theorem below_setC {B b : Nat} {a : World} (hb : B ≤ b) : ∀ (vs : List Value) (o : Nat) (w : World), Below B a w → Below B a (w.setCells b o vs)
  | [], _, _, h => h
  | v :: vs, o, w, h => below_setC hb vs (o + 1) _ (h.setCell hb v)
theorem own_setC {base : Nat} {e : TypeId} {size : Nat} {v : Value} {n b : Nat} {xs : List Value} (hb : b < base) : ∀ (vs : List Value) (o : Nat) (w : World), w.ownsRow base e size v n xs → (w.setCells b o vs).ownsRow base e size v n xs
  | [], _, _, h => h
  | u :: vs, o, w, h => own_setC hb vs (o + 1) _ (by
    refine ⟨h.1, ?_⟩
    rcases h.2 with h | ⟨g, cap, cur, hv, hg, hh, r⟩
    · exact .inl h
    · exact .inr ⟨g, cap, cur, hv, hg, (Below.heap_setCell w _ u g (by show g ≠ b; omega)).trans hh, r⟩)
/-- A row of bytes from which one is taken out. -/
theorem row_del {w : World} {g d : Nat} {l : List UInt8} (h : Row w g (bytesV l)) (hd : d < l.length) : Row (w.setCells g (0 + d * 1) (bytesV (l.drop (d + 1)))) g (bytesV (l.take d ++ l.drop (d + 1))) := by
  intro i u hu
  have hlen : (bytesV (l.drop (d + 1))).length = l.length - (d + 1) := by rw [bytesV_len, List.length_drop]
  refine ⟨?_, by rw [World.frozen?_setCells]; have hi := (List.getElem?_eq_some_iff.1 hu).1; rw [bytesV_len, List.length_append, List.length_take, List.length_drop] at hi; exact h.frozen (i := i) (by rw [bytesV_len]; omega)⟩
  unfold bytesV at hu
  rw [List.map_append, List.getElem?_append] at hu
  by_cases hid : i < d
  · rw [if_pos (by rw [List.length_map, List.length_take]; omega)] at hu
    rw [World.cell?_setCells_out g _ _ _ _ (fun _ _ => Or.inl (by show i < 0 + d * 1; omega))]
    rw [List.map_take, List.getElem?_take, if_pos hid] at hu
    exact (h i u hu).1
  · rw [if_neg (by rw [List.length_map, List.length_take]; omega), List.length_map, List.length_take, Nat.min_eq_left (by omega)] at hu
    have hj : i - d < (bytesV (l.drop (d + 1))).length := by
      have := (List.getElem?_eq_some_iff.1 hu).1
      rw [List.length_map] at this
      rw [bytesV_len]; exact this
    have key := World.cell?_setCells_in g (bytesV (l.drop (d + 1))) (0 + d * 1) w (fun j hj => by
      rw [hlen] at hj
      have := h.cell (i := d + j) (by rw [bytesV_len]; omega)
      rw [show 0 + d * 1 + j = d + j by omega, this]; rfl) (i - d) hj
    rw [show 0 + d * 1 + (i - d) = i by omega] at key
    rw [key, ← List.getElem?_eq_getElem hj]
    exact hu
theorem row_grown {w w' : World} {g : Nat} {cs : List Value} {q : Option Nat} (h : Row w g cs) (hg : w.grownBy w' q) (hne : q ≠ some g) : Row w' g cs := fun i u hu => by
  have h1 := h i u hu
  have hl := World.block_lt_of_cell? w _ h1.1
  have hb := hg.block g hl (fun e => hne (by first | exact e | exact e.symm))
  exact ⟨(World.cell?_of_block (a := ⟨g, i, none⟩) hb).trans h1.1, (World.frozen?_of_block (a := ⟨g, i, none⟩) hb).trans h1.2⟩
theorem infoU8' : (Try.prog.info? 5).map (fun i => (i.zero, i.size, i.bytes)) = some (some (.int .u8 0), 1, 1) := by kernel_rfl
/-- append onto an owned row of bytes, in a plain region. -/
theorem app_u8 {ops : Array Oper} {rest : List Oper} {o : Oper} {a : Act} {Q : Exit → Act → World → Prop} (w : World) (hgd : o.guard = none) (s x : Operand)
    (ho : o.op = .call { callee := .builtin .append, args := #[s, x], argTypes := #[81, 81] })
    (base : Nat) (v : Value) (n : Nat) (xs : List UInt8) (hs : a.eval s = v) (hown : w.ownsRow base 5 1 v n (bytesV xs))
    (A : Option Addr) (m c : Nat) (news : List UInt8) (hx : a.eval x = .slice A m c) (hr : Rd w A m (bytesV news)) (hsz : n + m ≤ 1000000000000) (hbase : base ≤ w.heap.size)
    (h : ∀ v' w', w'.ownsRow base 5 1 v' (n + m) (bytesV (xs ++ news)) → w.grownBy w' v.ownBlock → wpList Try.prog ops Q rest (a.put o.dst v') w') : wpList Try.prog ops Q (o :: rest) a w := by
  obtain ⟨i0, hi, hz0, hz1, hz2⟩ := info_parts infoU8'
  refine wpList_plain hgd fun _ hK => wp_append_rd w s x 81 ho base 5 i0 _ 1 Try.underlying81 hi hz0 hz1 hz2 rfl v n (bytesV xs) hs hown A m c (bytesV news) hx hr (fun u hu => by
    simp only [bytesV, List.mem_map] at hu
    obtain ⟨b, _, rfl⟩ := hu
    rfl) (by unfold maxLen; omega) (by omega) hbase fun v' w' h2 h3 _ => hK _ _ (h v' w' ?_ h3)
  have e : bytesV (xs ++ news) = bytesV xs ++ bytesV news := by simp [bytesV]
  rw [e]; exact h2
set_option maxHeartbeats 2000000 in
theorem rowOf_any (n k : Nat) (w : World) (lo : 3 ≤ n) (hi : n ≤ 8) (hk : k < factL n) :
    Calls Try.prog 69 #[.int .i64 n, .int .i64 k] w fun e w' => e = .returned (.string (bs (unrL n k))) ∧ Below w.heap.size w w' := by
  have HFm := hid (fun m (hm : m ≤ 8) w0 => factorial_any m w0 hm)
  have HRd := hid (fun w0 => rounds_any n w0 hi)
  have HKF := hid hk
  have hn0 : (0 : Int) ≤ (n : Int) := by omega
  obtain ⟨c, W, hcv, hrow, hbw, hsz, hlc⟩ := row_of_string (P := Try.prog) w 9 81 5 (roundsL n) Try.underlying9 Try.underlying81 Try.underlying5
  rw [rounds_len] at hcv hlc
  obtain ⟨i0, hi0, hz0, hz1, hz2⟩ := info_parts infoU8'
  have HROW := hid hrow
  have HBW := hid hbw
  have HSZ := hid hsz
  have hcm : n ≤ c := hlc
  clear hrow hbw hsz hlc hk
  go_enter Try.func69, Try.ntmps69
  go_wp2_with (first | (go_at_call 95; refine (HRd.out _).mono ?_; rintro e w' ⟨rfl, rfl⟩))
  have hwW : w.heap.size < W.heap.size := by have := HSZ.out; omega
  have HBA := hid (HBW.out.alloc HBW.out.size (.cells #[] 5))
  go_loopg [1, 5, 6, 7] n (fun gk x l5 u v wr => ∃ (m j : Nat) (rest out : List UInt8), m ≤ n ∧ gk = m ∧ x = .int .i64 j ∧ l5 = .slice (some ⟨w.heap.size, 0, none⟩) m c ∧ v = .int .i64 m ∧ rest.length = m ∧ out.length + m = n ∧ wr.ownsRow W.heap.size 5 1 u out.length (bytesV out) ∧ Row wr w.heap.size (bytesV rest) ∧ Hid (j < factL m) ∧ Hid (out ++ unrF m rest j = unrL n k) ∧ Below w.heap.size w wr ∧ W.heap.size ≤ wr.heap.size)
  case atStart => exact ⟨n, k, roundsL n, [], by omega, rfl, rfl, rfl, rfl, rounds_len n, by simp, own_of_blk (Blk.new _ _ #[]) (Nat.le_refl _) (by simp [maxLen]), HROW.out.alloc _, HKF, rfl, HBA.out, by simp⟩
  case round =>
    obtain ⟨m, j, rest, out, hm, rfl, rfl, rfl, rfl, hrl, hol, ho, hro, hjf, hun, hb, hsw⟩ := hrel
    rcases Nat.eq_zero_or_pos gk with h0 | h0
    · subst h0
      have hr0 : rest = [] := List.length_eq_zero_iff.1 hrl
      have HE := hid (show out = unrL n k by rw [← hun.out, hr0]; simp [unrF])
      obtain ⟨AO, cO, rfl, _, _, rdO, _⟩ := own_shape ho
      have hst : (convert 81 9 (.slice AO out.length cO)).run Try.prog wr = .ok (.string (bs out)) wr := by
        have h1 : out.length = n := by omega
        obtain ⟨b, o, rfl, hcell⟩ := rdO.2 (by omega)
        refine run_convert_bytes_back wr _ _ _ ⟨b, o, none⟩ cO out Try.underlying81 Try.underlying5 Try.underlying9 ?_
        intro i hi
        rw [show (⟨b, o, none⟩ : Addr).add i = ⟨b, o + i, none⟩ by unfold Addr.add; split <;> simp_all]
        exact hcell i _ (by simp [bytesV, hi])
      have HB := hid hb
      clear ho hro hb rdO hr0 hun
      go_wp2
      go_ret
      rw [HE.out]
      exact ⟨rfl, HB.out⟩
    · obtain ⟨m, rfl⟩ : ∃ m, gk = m + 1 := ⟨gk - 1, by omega⟩
      have hdl := unr_idx hjf.out
      have HML := hid (Nat.mod_lt j (fact_pos m))
      have hfp := fact_pos m
      have hfl := fact_le m (by omega)
      have hjl := Nat.lt_of_lt_of_le hjf.out (fact_le (m + 1) (by omega))
      have HFc := hid (fun w0 => HFm.out m (by omega) w0)
      have HUN := hid (show out ++ (rest.getD (j / factL m) 0 :: unrF m (rest.take (j / factL m) ++ rest.drop (j / factL m + 1)) (j % factL m)) = unrL n k from hun.out)
      obtain ⟨G, hG⟩ : ∃ G, G = factL m := ⟨_, rfl⟩
      rw [← hG] at hdl HML hfp hfl HFc HUN
      obtain ⟨d, hd⟩ : ∃ d, d = j / G := ⟨_, rfl⟩
      obtain ⟨r, hr⟩ : ∃ r, r = j % G := ⟨_, rfl⟩
      rw [← hd] at hdl HUN
      rw [← hr] at HML HUN
      have hq1 : (j : Int) / (G : Int) = (d : Int) := by rw [hd, Int.natCast_ediv]
      have hq2 : (j : Int) % (G : Int) = (r : Int) := by rw [hr, Int.natCast_emod]
      have HMG := hid (show r < factL m by rw [← hG]; exact HML.out)
      have HRL := hid hrl
      have g0 : ((G : Int) == 0) = false := by simp; omega
      have g1 : (G : Int) ≠ 0 := by omega
      have k0 : (0 : Int) ≤ (d : Int) := by omega
      have k1 : (d : Int) < (m : Int) + 1 := by omega
      have k3 : (0 : Int) ≤ (m : Int) := by omega
      have hdr : d < rest.length := by omega
      have hcd : w.heap.size < w.heap.size + 1 := by omega
      have hcell := (hro.cell (i := d) (by rw [bytesV_len]; exact hdr))
      rw [bytesV_at] at hcell
      have HGD := hid (gd_at rest d hdr)
      obtain ⟨y, hy⟩ : ∃ y, y = rest[d] := ⟨_, rfl⟩
      rw [← hy] at hcell HGD
      have hout : out.length ≤ 8 := by omega
      have l2 : out.length + 1 ≤ 1000000000000 := by omega
      have HO := hid ho
      have HRO := hid hro
      have HB := hid hb
      have HDR := hid hdr
      have HOL := hid hol
      have HHM := hid hm
      clear hd hr hG hun hjf hrl ho hro hb hy hdr hol
      go_wp2_with (first | (go_at_call 87; refine (HFc.out _).mono ?_; rintro e w' ⟨rfl, rfl⟩) | (at_builtin; refine app_u8 _ (by rfl) _ _ (by rfl) W.heap.size _ out.length out (by rfl) (HO.out.alloc _) (some ⟨wr.heap.size, 0, none⟩) 1 1 [y] (by rfl) (Rd.one _ _ _) l2 (by simp; omega) ?_; intro v5 w5 o5 g5))
      have hsw1 : W.heap.size ≤ (wr.alloc (.cells #[.int .u8 (y.toNat : Int)] 5)).heap.size := by simp; omega
      have HB5 := hid ((HB.out.alloc HB.out.size (.cells #[.int .u8 (y.toNat : Int)] 5)).grown g5 (Nat.le_trans (Nat.le_of_lt hwW) hsw1) (fun q hq => Nat.le_of_lt (Nat.lt_of_lt_of_le hwW (HO.out.lt q hq).1)))
      have HR5 := hid (row_grown (HRO.out.alloc (.cells #[.int .u8 (y.toNat : Int)] 5)) g5 (fun e => by have := (HO.out.lt _ e).1; omega))
      have hsw5 : W.heap.size ≤ w5.heap.size := Nat.le_trans hsw1 g5.size
      have HO5 := hid o5
      have hnl : (bytesV (rest.drop (d + 1))).length = m + 1 - (d + 1) := by rw [bytesV_len, List.length_drop, HRL.out]
      have HNL := hid hnl
      obtain ⟨AD, hAD, hnews⟩ : ∃ AD : Addr, (if c = d + 1 then some (⟨w.heap.size, 0, none⟩ : Addr) else some ⟨w.heap.size, d + 1, none⟩) = some AD ∧ Hid (∀ j u, (bytesV (rest.drop (d + 1)))[j]? = some u → w5.drew.cell? (AD.add j) = some u) := by
        by_cases h : c = d + 1
        · refine ⟨⟨w.heap.size, 0, none⟩, by simp [h], fun j u hu => ?_⟩
          have h1 := (List.getElem?_eq_some_iff.1 hu).1
          have := HHM.out
          rw [hnl] at h1; omega
        · refine ⟨⟨w.heap.size, d + 1, none⟩, by simp [h], fun j u hu => ?_⟩
          rw [show (⟨w.heap.size, d + 1, none⟩ : Addr).add j = ⟨w.heap.size, d + 1 + j, none⟩ by unfold Addr.add; split <;> simp_all]
          have h2 : (bytesV rest)[d + 1 + j]? = some u := by
            rw [← hu]; simp [bytesV, List.map_drop]
          exact (HR5.out (d + 1 + j) u h2).1
      have s1 : Hid ((bytesV (rest.drop (d + 1))).length = (m + 1 - (d + 1)) * 1) := by rw [Nat.mul_one]; exact hnl
      have s2 : Hid (∀ u ∈ bytesV (rest.drop (d + 1)), u.oneCell' = true) := by
        intro u hu
        simp only [bytesV, List.mem_map] at hu
        obtain ⟨x, _, rfl⟩ := hu
        rfl
      have s3 : Hid (∀ j, j < (bytesV (rest.drop (d + 1))).length → (w5.drew.cell? ⟨w.heap.size, 0 + d * 1 + j, none⟩).isSome = true ∧ w5.drew.frozen? ⟨w.heap.size, 0 + d * 1 + j, none⟩ = false) := by
        intro j hj
        rw [hnl] at hj
        have hi : d + j < (bytesV rest).length := by rw [bytesV_len, HRL.out]; omega
        rw [show 0 + d * 1 + j = d + j by omega]
        exact ⟨by show (w5.cell? _).isSome = true; rw [HR5.out.cell hi]; rfl, HR5.out.frozen hi⟩
      have hic : d ≤ c := by have := HHM.out; omega
      have hdm : d + (m + 1 - (d + 1)) = m := by omega
      have hlim : d + (m + 1 - (d + 1)) ≤ c := by have := HHM.out; omega
      have hp0 : (0 : Int) ≤ (d : Int) + 1 := by omega
      have hp1 : (d : Int) + 1 ≤ (m : Int) + 1 := by omega
      have hp3 : (d : Int) ≤ (m : Int) := by omega
      have HDM := hid hdm
      have hwr : IntKind.i64.wrap ((d : Int) + 1) = (d : Int) + 1 := IntWalk.i64_in _ (by omega)
      clear hnl hdm o5 g5
      go_region_law (refine step_append_room rfl (.tmp 37) (.tmp 41) 81 rfl 5 i0 1 Try.underlying81 hi0 hz1 w.heap.size 0 d c (by simp [Act.eval, Act.put]) AD (m + 1 - (d + 1)) (c - (d + 1)) (bytesV (rest.drop (d + 1))) (by simp [Act.eval, Act.put]) s1.out hnews.out s2.out hlim s3.out ?_)
      go_wp2
      go_roundg m
      case measure => omega
      case rel =>
        have hdr := HDR.out
        have hrl := HRL.out
        have hol := HOL.out
        have h1 := row_del (w := w5.drew) (fun i u hu => HR5.out i u hu) hdr
        have h2 : Below w.heap.size w (w5.drew.setCells w.heap.size (0 + d * 1) (bytesV (rest.drop (d + 1)))) := below_setC (Nat.le_refl _) _ _ _ HB5.out.drew
        have h30 : w5.drew.ownsRow W.heap.size 5 1 v5 (out.length + 1) (bytesV (out ++ [y])) := HO5.out
        have h3 := own_setC (b := w.heap.size) hwW (bytesV (rest.drop (d + 1))) (0 + d * 1) _ h30
        have h4 : w5.heap.size ≤ (w5.drew.setCells w.heap.size (0 + d * 1) (bytesV (rest.drop (d + 1)))).heap.size := (below_setC (B := w.heap.size) (a := w5.drew) (Nat.le_refl _) (bytesV (rest.drop (d + 1))) (0 + d * 1) w5.drew ((Below.refl _ _).mono (Nat.le_trans (Nat.le_of_lt hwW) hsw5))).size
        have e1 : out ++ (rest.getD d 0 :: unrF m (rest.take d ++ rest.drop (d + 1)) r) = (out ++ [y]) ++ unrF m (rest.take d ++ rest.drop (d + 1)) r := by rw [HGD.out, List.append_assoc]; rfl
        exact ⟨m, r, rest.take d ++ rest.drop (d + 1), out ++ [y], by omega, rfl, by first | rfl | go_num, rfl, by first | rfl | go_num, by rw [List.length_append, List.length_take, List.length_drop]; omega, by rw [List.length_append, List.length_singleton]; omega, by rw [List.length_append, List.length_singleton]; first | exact h3 | simpa using h3, by first | exact h1 | simpa using h1, HMG, hid (e1.symm.trans HUN.out), by first | exact h2 | simpa using h2, by first | exact Nat.le_trans hsw5 h4 | simpa using Nat.le_trans hsw5 h4⟩
end Go.Proofs.Ytecplhpioohhmaa
