/- Contracts of AllTouches, in the reference and in the program. No conditions beyond those stated. -/
import Derived.Test.YtiajeheonoebnaaApp
import Derived.Test.YtiajeheonoebnaaSplice
set_option linter.unusedVariables false
set_option linter.unusedSimpArgs false
set_option maxRecDepth 100000
namespace Go.Proofs.Ytiajeheonoebnaa
open Go.RowKit

def nextT (l : List (List UInt8)) : List (List UInt8) := l.flatMap fun s => [s ++ [98], s ++ [112], s ++ [115]]
def allT : Nat → List (List UInt8)
  | 0 => [[]]
  | n + 1 => nextT (allT n)
theorem nextT_len (l : List (List UInt8)) : (nextT l).length = 3 * l.length := by
  induction l with
  | nil => rfl
  | cons a l ih => simp only [nextT, List.flatMap_cons, List.length_append, List.length_cons, List.length_nil] at ih ⊢; omega
theorem nextT_take (l : List (List UInt8)) (j : Nat) (h : j < l.length) : nextT (l.take j) ++ [l[j] ++ [98], l[j] ++ [112], l[j] ++ [115]] = nextT (l.take (j + 1)) := by
  rw [List.take_succ_eq_append_getElem h]
  simp only [nextT, List.flatMap_append, List.flatMap_cons, List.flatMap_nil, List.append_nil]
def trip (s : List UInt8) : List (List UInt8) := [s ++ [98], s ++ [112], s ++ [115]]
theorem trip_step (s : List UInt8) (q : Nat) (h : q < 3) : (trip s).take q ++ [s ++ List.take 1 (List.drop q [98, 112, 115])] = (trip s).take (q + 1) := by
  match q, h with
  | 0, _ => rfl
  | 1, _ => rfl
  | 2, _ => rfl
theorem allT_len (n : Nat) : (allT n).length = 3 ^ n := by
  induction n with
  | zero => rfl
  | succ n ih => rw [allT, nextT_len, ih, Nat.pow_succ]; omega
theorem allT_str (n : Nat) : ∀ s ∈ allT n, s.length = n := by
  induction n with
  | zero => intro s hs; simp [allT] at hs; simp [hs]
  | succ n ih =>
    intro s hs
    simp only [allT, nextT, List.mem_flatMap] at hs
    obtain ⟨t, ht, h⟩ := hs
    have := ih t ht
    simp at h
    rcases h with rfl | rfl | rfl <;> simp [this]
theorem allT_le (n : Nat) (h : n ≤ 6) : (allT n).length ≤ 729 := by
  rw [allT_len]
  exact Nat.pow_le_pow_right (by omega) h

theorem l13All_any (n : Nat) (w : World) (hn : n ≤ 6) :
    Calls Try.prog 52 #[.int .i64 n] w (OneS w (allT n)) := by
  go_enter Try.func52, Try.ntmps52
  go_wp2
  go_loopg [0, 3] n (fun gk u v wr => ∃ k : Nat, k ≤ n ∧ gk = n - k ∧ u = .int .i64 ((n - k : Nat) : Int) ∧ wr.ownsRow w.heap.size 9 1 v (allT k).length (strV (allT k)) ∧ Below w.heap.size w wr)
  case atStart => exact ⟨0, by omega, by omega, rfl, own_of_blk (Blk.new _ _ _) (Nat.le_refl _) (by simp [maxLen]), (Below.refl _ _).alloc (Nat.le_refl _) _⟩
  case round =>
    obtain ⟨k, hk, rfl, rfl, ho, hb⟩ := hrel
    by_cases hlt : k < n
    · have hle := allT_le k (by omega)
      obtain ⟨A, c, rfl, _, _, rd, bl⟩ := own_shape ho
      have hbs := hb.size
      have hb' := hid hb
      have ho' := hid ho
      clear hb ho
      have hpos : 0 < n - k := by omega
      have hposd : decide (0 < n - k) = true := by simp; omega
      obtain ⟨wo, rfl⟩ : ∃ wo : World, wo = wr := ⟨_, rfl⟩
      obtain ⟨L, hL⟩ : ∃ L, L = allT k := ⟨_, rfl⟩
      have hstr : ∀ s ∈ L, s.length = k := by rw [hL]; exact allT_str k
      have Hstr := hid hstr
      clear hstr
      rw [← hL] at hle rd ho'
      rw [← hL]
      have HL := hid hL
      clear hL
      go_wp2
      go_loopg [4, 14] L.length (fun gk v i wr => ∃ j : Nat, j ≤ L.length ∧ gk = L.length - j ∧ i = .int .i64 j ∧ wr.ownsRow wo.heap.size 9 1 v (3 * j) (strV (nextT (L.take j))) ∧ Below wo.heap.size wo wr)
      case atStart => exact ⟨0, by omega, by omega, rfl, World.ownsRow_nil _ _ _ _, Below.refl _ _⟩
      case round =>
        obtain ⟨j, hj, rfl, rfl, o4, b4⟩ := hrel
        by_cases hlt2 : j < L.length
        · obtain ⟨b, o, rfl, hj', hc⟩ := (rd.below b4).str hlt2
          have hj0 : (0 : Int) ≤ (j : Int) := by omega
          have hj1 : (j : Int) < (L.length : Int) := by omega
          have hlen : L[j].length ≤ 6 := by rw [Hstr.out _ (List.getElem_mem hj')]; omega
          have b4s := b4.size
          have b4' := hid b4
          have o4' := hid o4
          have rd' := hid rd
          clear b4 o4 rd
          go_wp2_with (at_builtin; refine app_str _ (by rfl) _ _ (by rfl) wo.heap.size _ _ _ (by rfl) (o4'.out.alloc _) (some ⟨wr.heap.size, 0, none⟩) 3 3 [L[j] ++ [98], L[j] ++ [112], L[j] ++ [115]] (by rfl) (Rd.blk wr [.string (bs (L[j] ++ [98])), .string (bs (L[j] ++ [112])), .string (bs (L[j] ++ [115]))] _) (by omega) (by simp; omega) ?_; intro v5 w5 o5 g5)
          go_roundg (L.length - (j + 1))
          case measure => omega
          case rel =>
            rw [nextT_take L j hj'] at o5
            exact ⟨j + 1, by omega, rfl, by go_num, o5, (b4'.out.alloc b4s _).grown g5 (by simp; omega) fun q hq => (o4'.out.lt q hq).1⟩
        · have ej : j = L.length := by omega
          subst ej
          rw [List.take_length] at o4
          have b4s := b4.size
          have b4' := hid b4
          have o4' := hid o4
          clear b4 o4 rd
          go_wp2
          go_roundg (n - (k + 1))
          case measure => omega
          case rel =>
            have e : allT (k + 1) = nextT L := by rw [HL.out]; rfl
            have e2 : (allT (k + 1)).length = 3 * L.length := by rw [e, nextT_len]
            have o5 := own_mono o4'.out hbs
            rw [← e, ← e2] at o5
            exact ⟨k + 1, by omega, rfl, by congr 1; omega, o5, hb'.out.trans (b4'.out.mono hbs)⟩
    · have ek : k = n := by omega
      subst ek
      rw [Nat.sub_self]
      go_wp2
      go_ret
      exact ⟨_, rfl, ho, hb⟩

theorem allTouches_any (n : Nat) (w : World) (hn : n ≤ 6) :
    Calls Try.prog 58 #[.int .i64 n] w (OneS w (allT n)) := by
  go_enter Try.func58, Try.ntmps58
  go_wp2
  go_loopg [10, 3] n (fun gk u v wr => ∃ k : Nat, k ≤ n ∧ gk = n - k ∧ u = .int .i64 (k : Int) ∧ wr.ownsRow w.heap.size 9 1 v (allT k).length (strV (allT k)) ∧ Below w.heap.size w wr)
  case atStart => exact ⟨0, by omega, by omega, rfl, own_of_blk (Blk.new _ _ _) (Nat.le_refl _) (by simp [maxLen]), (Below.refl _ _).alloc (Nat.le_refl _) _⟩
  case round =>
    obtain ⟨k, hk, rfl, rfl, ho, hb⟩ := hrel
    by_cases hlt : k < n
    · have hle := allT_le k (by omega)
      obtain ⟨A, c, rfl, _, _, rd, bl⟩ := own_shape ho
      have hbs := hb.size
      have hb' := hid hb
      have ho' := hid ho
      clear hb ho
      obtain ⟨wo, rfl⟩ : ∃ wo : World, wo = wr := ⟨_, rfl⟩
      obtain ⟨L, hL⟩ : ∃ L, L = allT k := ⟨_, rfl⟩
      have hstr : ∀ s ∈ L, s.length = k := by rw [hL]; exact allT_str k
      have Hstr := hid hstr
      clear hstr
      rw [← hL] at hle rd ho'
      rw [← hL]
      have HL := hid hL
      clear hL
      go_wp2
      go_loopg [4, 15] L.length (fun gk v i wr => ∃ j : Nat, j ≤ L.length ∧ gk = L.length - j ∧ i = .int .i64 j ∧ wr.ownsRow wo.heap.size 9 1 v (3 * j) (strV (nextT (L.take j))) ∧ Below wo.heap.size wo wr)
      case atStart => exact ⟨0, by omega, by omega, rfl, own_of_blk (Blk.new _ _ _) (Nat.le_refl _) (by simp [maxLen]), (Below.refl _ _).alloc (Nat.le_refl _) _⟩
      case round =>
        obtain ⟨j, hj, rfl, rfl, o4, b4⟩ := hrel
        by_cases hlt2 : j < L.length
        · obtain ⟨b, o, rfl, hj', hc⟩ := (rd.below b4).str hlt2
          have hj0 : (0 : Int) ≤ (j : Int) := by omega
          have hj1 : (j : Int) < (L.length : Int) := by omega
          have hlen : L[j].length ≤ 6 := by rw [Hstr.out _ (List.getElem_mem hj')]; omega
          have b4s := b4.size
          have b4' := hid b4
          have o4' := hid o4
          have rd' := hid rd
          clear b4 o4 rd
          go_wp2
          obtain ⟨w2, rfl⟩ : ∃ w2 : World, w2 = wr := ⟨_, rfl⟩
          go_loopg [4, 19] 3 (fun gk v i wr => ∃ q : Nat, q ≤ 3 ∧ gk = 3 - q ∧ i = .int .i64 q ∧ wr.ownsRow wo.heap.size 9 1 v (3 * j + q) (strV (nextT (L.take j) ++ (trip L[j]).take q)) ∧ Below wo.heap.size wo wr)
          case atStart => exact ⟨0, by omega, by omega, rfl, by rw [List.take_zero, List.append_nil]; exact o4'.out, b4'.out⟩
          case round =>
            obtain ⟨q, hq, rfl, rfl, o5, b5⟩ := hrel
            by_cases hlt3 : q < 3
            · have b5s := b5.size
              have b5' := hid b5
              have o5' := hid o5
              clear b5 o5
              go_wp2_with (at_builtin; refine app_str _ (by rfl) _ _ (by rfl) wo.heap.size _ _ _ (by rfl) (o5'.out.alloc _) (some ⟨wr.heap.size, 0, none⟩) 1 1 [L[j] ++ List.take 1 (List.drop q [98, 112, 115])] (by rfl) (Rd.blk wr [.string (bs (L[j] ++ List.take 1 (List.drop q [98, 112, 115])))] _) (by omega) (by simp; omega) ?_; intro v6 w6 o6 g6)
              go_roundg (3 - (q + 1))
              case measure => omega
              case rel =>
                rw [List.append_assoc, trip_step _ q hlt3] at o6
                exact ⟨q + 1, by omega, rfl, by go_num, o6, (b5'.out.alloc b5s _).grown g6 (by simp; omega) fun q hq => (o5'.out.lt q hq).1⟩
            · have eq3 : q = 3 := by omega
              subst eq3
              have b5s := b5.size
              have b5' := hid b5
              have o5' := hid o5
              clear b5 o5
              go_wp2
              go_roundg (L.length - (j + 1))
              case measure => omega
              case rel =>
                have o6 := o5'.out
                rw [show (trip L[j]).take 3 = [L[j] ++ [98], L[j] ++ [112], L[j] ++ [115]] from rfl, nextT_take L j hj'] at o6
                exact ⟨j + 1, by omega, rfl, by go_num, o6, b5'.out⟩
        · have ej : j = L.length := by omega
          subst ej
          rw [List.take_length] at o4
          have b4s := b4.size
          have b4' := hid b4
          have o4' := hid o4
          clear b4 o4 rd
          go_wp2
          go_roundg (n - (k + 1))
          case measure => omega
          case rel =>
            have e : allT (k + 1) = nextT L := by rw [HL.out]; rfl
            have e2 : (allT (k + 1)).length = 3 * L.length := by rw [e, nextT_len]
            have o5 := own_mono o4'.out hbs
            rw [← e, ← e2] at o5
            exact ⟨k + 1, by omega, rfl, by go_num, o5, hb'.out.trans (b4'.out.mono hbs)⟩
    · have ek : k = n := by omega
      subst ek
      go_wp2
      go_ret
      exact ⟨_, rfl, ho, hb⟩

/-- What AllTouches answers. -/
def allTouchesR (n : Int) : List (List UInt8) × Bool := if 1 ≤ n ∧ n ≤ 6 then (allT n.toNat, true) else ([], false)
theorem allTouchesR_yes (n : Int) (h : 1 ≤ n ∧ n ≤ 6) : allTouchesR n = (allT n.toNat, true) := if_pos h
theorem allTouchesR_no (n : Int) (h : ¬ (1 ≤ n ∧ n ≤ 6)) : allTouchesR n = ([], false) := if_neg h
theorem allTouchesR_le (n : Int) : (allTouchesR n).1.length ≤ 729 := by
  unfold allTouchesR
  split
  · exact allT_le _ (by omega)
  · simp

end Go.Proofs.Ytiajeheonoebnaa
