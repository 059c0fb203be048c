/-
  Walks of chapter 19's small functions: padded, value, scaled, Vanish, Values. Conditions: slices no longer than the form lets them be.
-/
import Derived.Test.YtbgppkgcdmpajaaThruB
import Derived.Laws.CopyOwn
namespace Go.Proofs.Ytbgppkgcdmpajaa
open Go.RowKit Go.Shelf
set_option linter.unusedVariables false

theorem own_full {w : World} {base g n : Nat} {e : TypeId} {xs : List Value} (h : w.ownsRow base e 1 (.slice (some ⟨g, 0, none⟩) n n) n xs) : w.heap[g]? = some (.cells xs.toArray e (0, 0)) := by
  rcases h.2 with ⟨h0, _⟩ | ⟨g', cap, cur, hv, _, hh, _, _, hs, ht⟩
  · cases h0
  · injection hv with h1 h2 h3
    injection h1 with h1
    injection h1 with h1
    subst h1
    subst h3
    rw [hh, ← ht, List.take_of_length_le (by rw [Array.length_toList, hs]; exact Nat.le_refl _)]
theorem Rs.of_heap {w : World} {g : Nat} {e : TypeId} {xs : List Value} (h : w.heap[g]? = some (.cells xs.toArray e (0, 0))) : Rs w (some ⟨g, 0, none⟩) xs := by
  intro _
  refine ⟨g, 0, rfl, (Array.getElem?_eq_some_iff.1 h).1, fun j u hu => ?_⟩
  rw [Nat.zero_add, cell_of_row w g j _ _ _ h]
  simpa using hu
theorem splice_pad (c : List Nat) (n : Nat) (h : c.length ≤ n) : splice (us (List.replicate n 0)) 0 (us c) = us (padL c n) := by
  have e : us c ++ us ((List.replicate n 0).drop c.length) = us (padL c n) := by
    rw [← us_append]
    congr 1
    refine getD_ext (by rw [len_padL]; simp; omega) fun k => ?_
    rw [padL_getD h]
    by_cases hk : k < c.length
    · simp [List.getD, List.getElem?_append_left hk]
    · simp only [List.getD, List.getElem?_append_right (Nat.le_of_not_lt hk)]
      rw [List.getElem?_drop, List.getElem?_replicate, List.getElem?_eq_none (by omega : c.length ≤ k)]
      split <;> rfl
  rw [← e]
  simp [splice, us]
set_option maxHeartbeats 1000000 in
theorem padded_t (A : Option Addr) (c m n : Nat) (l : List Nat) (w : World) (hr : Rs w A (us l)) (hl : l.length = m) (hmn : m ≤ n) (hn : n ≤ 1000000) :
    Calls Try.prog 78 #[.slice A m c, .int .i64 n] w (RetL w (padL l n)) := by
  obtain ⟨i0, hi, hz0, hz1, hz2⟩ := info_parts Try.infoU64'
  have hsp := hide (splice_pad l n (by omega))
  have HL := hide hl
  have hp := hide (len_padL l n)
  clear hl
  go_enter Try.func78, Try.ntmps78
  go_wp2_with (at_make; refine wpList_make_full _ rfl _ _ _ rfl w.heap.size 22 i0 (.int .u64 0) 1 Try.underlying36 hi hz0 hz1 .i64 .i64 _ _ n rfl rfl rfl rfl (by rw [hz2]; omega) (by unfold maxLen; omega) (Nat.le_refl _) ?_)
  intro w1 hown hgr
  have B0 : Below w.heap.size w w1 := (Below.refl _ _).grown hgr (Nat.le_refl _) (by simp)
  rw [us_rep] at hown
  have hg := own_full hown
  have hr1 := Rd.below hr B0
  have HG := hide hg
  clear hg hgr hown
  go_wp2_with (refine wpList_copy_splice rfl (.tmp 8) (.tmp 9) 36 36 (by rfl) 22 Try.underlying36 (by rw [hi]; simp [hz1]) _ _ n n m c (by rfl) (by rfl) w.heap.size 0 (us (List.replicate n 0)) 22 HG.out (us l) (by rw [len_us, HL.out]; exact (Nat.min_eq_left hmn).symm) (fun hp => ⟨rfl, by
    obtain ⟨b, o, he, hb, hc⟩ := hr1 hp
    exact ⟨_, he, fun j v hj => by rw [Addr.add_lit]; exact hc j v hj⟩⟩) (by rw [len_us, len_us, HL.out]; simpa using hmn) (one_us _) w.heap.size w B0 (Nat.le_refl _) ?_)
  intro w2 hw2 hb2
  rw [hsp.out] at hw2
  go_wp2_with fail
  go_ret
  exact ⟨_, _, by rw [hp.out]; rfl, Rs.of_heap hw2.out, hb2⟩
theorem value_t (A : Option Addr) (c n x : Nat) (l : List Nat) (w : World) (hr : Rs w A (us l)) (hl : l.length = n) (hn : n ≤ 1000000) (hw : ∀ y ∈ l, y < 18446744073709551616) (hx : x < 18446744073709551616) :
    Calls Try.prog 76 #[.slice A n c, .int .u64 x] w fun e w' => e = .returned (.int .u64 (pval l x % 2305843009213693951 : Nat)) ∧ Below w.heap.size w w' := by
  have H := hide (divide_p A c n x l w hr hl hn hw hx)
  clear hw
  go_enter Try.func76, Try.ntmps76
  go_wp2_with fail
  refine H.out.mono ?_
  rintro e w3 ⟨A1, c1, rfl, hq, hb⟩
  go_wp2_with fail
  go_ret
  exact ⟨rfl, hb⟩
theorem one_lt {x : Nat} (hx : x < 18446744073709551616) : ∀ y ∈ ([x] : List Nat), y < 18446744073709551616 := fun y hy => by rw [List.mem_singleton.1 hy]; exact hx
set_option maxHeartbeats 1000000 in
theorem scaled_t (A : Option Addr) (c n x : Nat) (l : List Nat) (w : World) (hr : Rs w A (us l)) (hl : l.length = n) (hn : n ≤ 100000) (hw : ∀ y ∈ l, y < 18446744073709551616) (hx : x < 18446744073709551616) :
    Calls Try.prog 77 #[.slice A n c, .int .u64 x] w (RetL w (mulP l [x])) := by
  have H := hide (fun A' c' W h h' => mul_p A A' c c' n 1 l [x] W h h' hl rfl hn (by omega) hw (one_lt hx))
  generalize mulP l [x] = R at *
  clear hw hl hn
  go_enter Try.func77, Try.ntmps77
  go_wp2_with fail
  refine (H.out _ _ _ (hr.alloc _) (Rs.new1 w x _)).mono ?_
  rintro e w3 ⟨A1, c1, rfl, hq, hb⟩
  go_wp2_with fail
  go_ret
  exact ⟨A1, c1, rfl, hq, below_call ((Below.refl _ _).alloc (Nat.le_refl _) _) (Nat.le_refl _) hb⟩
theorem sub_t (a b : Nat) (ha : a < 18446744073709551616) (hb : b < 18446744073709551616) (w : World) : Calls Try.prog 29 #[.int .i64 61, .int .u64 a, .int .u64 b] w fun e w' => e = .returned (.int .u64 (subP a b : Nat)) ∧ Below w.heap.size w w' := by
  have h := Sub_any 61 a b ha hb w
  rw [prm61', mdn_pos (by omega), mdn_pos (by omega)] at h
  exact h
theorem neg_t (b : Nat) (hb : b < 18446744073709551616) (w : World) : Calls Try.prog 29 #[.int .i64 61, .int .u64 0, .int .u64 b] w fun e w' => e = .returned (.int .u64 (negP b : Nat)) ∧ Below w.heap.size w w' := by
  have h := sub_t 0 b (by omega) hb w
  rw [subP_zero] at h
  exact h
set_option maxRecDepth 100000 in
set_option maxHeartbeats 4000000 in
theorem vanish_t (A : Option Addr) (c m : Nat) (xs : List Nat) (w : World) (hb : Rs w A (us xs)) (hlb : xs.length = m) (hm : m ≤ 10000) (hwb : ∀ y ∈ xs, y < 18446744073709551616) :
    Calls Try.prog 55 #[.slice A m c] w (RetL w (thZ xs m)) := by
  have HN := hide (fun k W => neg_t (xs.getD k 0) (getD_lt hwb k) W)
  have HM := hide (fun k (hk : k < m) A A' c c' n (hn : (thZ xs k).length = n) W h h' => mul_p A A' c c' n 2 (thZ xs k) [negP (xs.getD k 0), 1] W h h' hn rfl (by have := len_thZ xs k; omega) (by omega) (thZ_lt64 xs k) (two_lt (negP_lt _)))
  have HZ := hide (fun k => show mulP (thZ xs k) [negP (xs.getD k 0), 1] = thZ xs (k + 1) from rfl)
  have HGD := hide (fun k (h : k < xs.length) => getD_in (l := xs) h)
  have HLB := hide hlb
  have h0 : thZ xs 0 = [1] := rfl
  generalize thZ xs = R at *
  have HH0 := hide h0
  clear hlb hwb h0
  go_enter Try.func55, Try.ntmps55
  go_wp2_with fail
  go_loopg [3, 9] m (fun g v3 v9 wr => ∃ (k n : Nat) (A : Option Addr) (c : Nat), g = m - k ∧ k ≤ m ∧ v9 = .int .i64 k ∧ v3 = .slice A n c ∧ Hid ((R k).length = n) ∧ Rs wr A (us (R k)) ∧ Below w.heap.size w wr)
  case atStart => exact ⟨0, 1, _, _, rfl, Nat.zero_le _, rfl, rfl, by rw [HH0.out]; exact rfl, by rw [HH0.out]; exact Rs.new1 w 1 _, (Below.refl _ _).alloc (Nat.le_refl _) _⟩
  case round =>
    obtain ⟨k, n, A1, c1, hg, hk, rfl, rfl, hn, hrd, B⟩ := hrel
    have HG := hide hg
    clear hg
    by_cases hlt : k < m
    · have t1 : (k : Int) < (m : Int) := by omega
      have t2 : (0 : Int) ≤ (k : Int) := by omega
      have hkl : k < xs.length := by rw [HLB.out]; exact hlt
      obtain ⟨b, o, rfl, hbb, hc⟩ := (Rd.below hb B).u (k := k) hkl
      have HNk := hide (HN.out k)
      have HMk := hide (HM.out k hlt)
      rw [HZ.out k] at HMk
      have hgd := HGD.out k hkl
      rw [← hgd] at hc
      clear hgd
      generalize negP (xs.getD k 0) = y at *
      generalize xs.getD k 0 = x at *
      go_wp2_with fail
      refine (HNk.out _).mono ?_
      rintro e w1 ⟨rfl, hb1⟩
      replace hrd := hrd.call hb1
      replace B : Below w.heap.size w w1 := below_call B (Nat.le_refl _) hb1
      clear hb1 hc
      go_wp2_with fail
      have RM := fun t => Rs.new2 w1 y 1 t
      refine (HMk.out _ _ _ _ _ hn.out _ (hrd.alloc _) (RM _)).mono ?_
      rintro e w2 ⟨A2, c2, rfl, r2, hb2⟩
      have B2 : Below w.heap.size w w2 := below_call (B.alloc B.size _) (Nat.le_refl _) hb2
      clear hb2 B RM
      go_wp2_with fail
      go_roundg (m - (k + 1))
      case measure => rw [HG.out]; omega
      case rel => exact ⟨k + 1, _, A2, c2, rfl, by omega, by go_num, rfl, hide rfl, r2, B2⟩
    · have hkm : k = m := by omega
      subst hkm
      go_wp2_with fail
      go_ret
      exact ⟨A1, c1, by rw [hn.out]; rfl, hrd, B⟩
end Go.Proofs.Ytbgppkgcdmpajaa
