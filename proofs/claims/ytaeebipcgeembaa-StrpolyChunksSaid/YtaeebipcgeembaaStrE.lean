/-
  strpoly.Append and strpoly.Eval. Conditions: words; a text of bytes.
-/
import Derived.Test.YtaeebipcgeembaaStrD
import Derived.Test.YtaeebipcgeembaaPolyA
namespace Go.Proofs.Ytaeebipcgeembaa
open Go.RowKit Go.Shelf
set_option linter.unusedVariables false

attribute [local go_sem] Oper.semAt_some

theorem is61 (a : Nat) (w : World) : Calls Try.prog 23 #[.int .i64 61, .int .u64 a] w fun e w' => e = .returned (.bool (decide (a < 2305843009213693951))) ∧ w = w' := Is_any 61 a w
theorem is61_yes (a : Nat) (h : a < 2305843009213693951) (w : World) : Calls Try.prog 23 #[.int .i64 61, .int .u64 a] w fun e w' => e = .returned (.bool true) ∧ w = w' := by
  have := is61 a w
  rwa [decide_eq_true h] at this
theorem is61_no (a : Nat) (h : ¬ a < 2305843009213693951) (w : World) : Calls Try.prog 23 #[.int .i64 61, .int .u64 a] w fun e w' => e = .returned (.bool false) ∧ w = w' := by
  have := is61 a w
  rwa [decide_eq_false h] at this
theorem mul61 (a b : Nat) (ha : a < 2305843009213693951) (hb : b < 2305843009213693951) (w : World) : Calls Try.prog 27 #[.int .i64 61, .int .u64 a, .int .u64 b] w fun e w' => e = .returned (.int .u64 (a * b % 2305843009213693951 : Nat)) ∧ Below w.heap.size w w' := by
  have h := Mul_any 61 a b (by omega) (by omega) w
  rw [prm61', mdn_pos (by omega)] at h
  exact h
theorem add61 (a b : Nat) (ha : a < 2305843009213693951) (hb : b < 2305843009213693951) (w : World) : Calls Try.prog 26 #[.int .i64 61, .int .u64 a, .int .u64 b] w fun e w' => e = .returned (.int .u64 ((a + b) % 2305843009213693951 : Nat)) ∧ Below w.heap.size w w' := by
  have h := Add_any 61 a b (by omega) (by omega) w
  rw [prm61', mdn_pos (by omega)] at h
  exact h
/-- One chunk more. -/
def goesN (a h x : Nat) : Nat := (h * a % 2305843009213693951 + x) % 2305843009213693951
theorem goesN_lt (a h x : Nat) : goesN a h x < 2305843009213693951 := Nat.mod_lt _ (by omega)
set_option maxHeartbeats 1000000 in
theorem append_yes (a h x : Nat) (ha : a < 2305843009213693951) (hh : h < 2305843009213693951) (hx : x < 2305843009213693951) (w : World) :
    Calls Try.prog 10 #[.int .u64 a, .int .u64 h, .int .u64 x] w fun e w' => e = .returned (.tuple #[.int .u64 (goesN a h x : Nat), .int .i64 0]) ∧ Below w.heap.size w w' := by
  have i1 := is61_yes a ha w
  have i2 := is61_yes h hh w
  have i3 := is61_yes x hx w
  have i4 := mul61 h a hh ha w
  obtain ⟨M, hM⟩ : ∃ M, M = h * a % 2305843009213693951 := ⟨_, rfl⟩
  have hMlt : M < 2305843009213693951 := by rw [hM]; exact Nat.mod_lt _ (by omega)
  rw [← hM] at i4
  have i5 := fun W => add61 M x hMlt hx W
  obtain ⟨R, hR⟩ : ∃ R, R = goesN a h x := ⟨_, rfl⟩
  have hR2 : (M + x) % 2305843009213693951 = R := by rw [hR, hM]; rfl
  rw [hR2] at i5
  rw [← hR]
  clear hR2 hR hM hMlt ha hh hx
  go_enter Try.func10, Try.ntmps10
  go_wp2_with (first
    | (go_at_call 23; (with_reducible refine i1.mono ?_); rintro e w2 ⟨rfl, rfl⟩)
    | (go_at_call 23; (with_reducible refine i2.mono ?_); rintro e w2 ⟨rfl, rfl⟩)
    | (go_at_call 23; (with_reducible refine i3.mono ?_); rintro e w2 ⟨rfl, rfl⟩)
    | (go_at_call 27; (with_reducible refine i4.mono ?_); rintro e w2 ⟨rfl, hb2⟩)
    | (go_at_call 26; (with_reducible refine (i5 _).mono ?_); rintro e w3 ⟨rfl, hb3⟩))
  go_ret2
  exact ⟨rfl, below_call hb2 (Nat.le_refl _) hb3⟩
set_option maxHeartbeats 1000000 in
theorem append_no (a h x : Nat) (hno : ¬ a < 2305843009213693951 ∨ ¬ h < 2305843009213693951 ∨ ¬ x < 2305843009213693951) (w : World) :
    Calls Try.prog 10 #[.int .u64 a, .int .u64 h, .int .u64 x] w fun e w' => e = .returned (.tuple #[.int .u64 0, .int .i64 2]) ∧ w = w' := by
  by_cases ha : a < 2305843009213693951
  · have i1 := is61_yes a ha w
    by_cases hh : h < 2305843009213693951
    · have i2 := is61_yes h hh w
      have i3 := is61_no x (by omega) w
      clear hno ha hh
      go_enter Try.func10, Try.ntmps10
      go_wp2_with (first
        | (go_at_call 23; (with_reducible refine i1.mono ?_); rintro e w2 ⟨rfl, rfl⟩)
        | (go_at_call 23; (with_reducible refine i2.mono ?_); rintro e w2 ⟨rfl, rfl⟩)
        | (go_at_call 23; (with_reducible refine i3.mono ?_); rintro e w2 ⟨rfl, rfl⟩))
      go_ret2
      exact ⟨rfl, rfl⟩
    · have i2 := is61_no h hh w
      clear hno ha hh
      go_enter Try.func10, Try.ntmps10
      go_wp2_with (first
        | (go_at_call 23; (with_reducible refine i1.mono ?_); rintro e w2 ⟨rfl, rfl⟩)
        | (go_at_call 23; (with_reducible refine i2.mono ?_); rintro e w2 ⟨rfl, rfl⟩))
      go_ret2
      exact ⟨rfl, rfl⟩
  · have i1 := is61_no a ha w
    clear hno ha
    go_enter Try.func10, Try.ntmps10
    go_wp2_with (first
      | (go_at_call 23; (with_reducible refine i1.mono ?_); rintro e w2 ⟨rfl, rfl⟩))
    go_ret2
    exact ⟨rfl, rfl⟩
theorem chunksN_lt (bs : List Nat) (hby : ∀ x ∈ bs, x < 256) : ∀ x ∈ chunksN bs, x < 72057594037927936 := by
  fun_induction chunksN bs with
  | case1 b h =>
    intro x hx
    obtain rfl : x = leN b + 256 ^ b.length := by simpa using hx
    have h1 := leN_lt b hby
    have h2 : 256 ^ b.length ≤ 256 ^ 6 := Nat.pow_le_pow_right (by decide) (by omega)
    omega
  | case2 b h ih =>
    intro x hx
    rcases List.mem_cons.1 hx with rfl | hx
    · have h1 := leN_lt (b.take 7) (fun y hy => hby y (List.mem_of_mem_take hy))
      rw [List.length_take, Nat.min_eq_left (by omega)] at h1
      omega
    · exact ih (fun y hy => hby y (List.mem_of_mem_drop hy)) x hx
/-- The value over some chunks. -/
def horN (a : Nat) (l : List Nat) : Nat := l.foldl (fun h x => goesN a h x) 1
theorem horN_snoc (a : Nat) (l : List Nat) (x : Nat) : horN a (l ++ [x]) = goesN a (horN a l) x := by simp [horN]
theorem horN_lt (a : Nat) (l : List Nat) : horN a l < 2305843009213693951 := by
  rcases List.eq_nil_or_concat l with rfl | ⟨l', x, rfl⟩
  · simp [horN]
  · rw [List.concat_eq_append, horN_snoc]
    exact goesN_lt _ _ _
theorem boxed_call {W W' : World} {B : Nat} {t : TypeId} {v : Value} (h : Boxed W B t v) (hb : Below W.heap.size W W') : Boxed W' B t v := (hb.block B h.lt).trans h
theorem keeps_call {W W' : World} (hb : Below W.heap.size W W') : KeepsOthers W W' := ⟨hb.size, fun k o hk _ => (hb.block k (Array.getElem?_eq_some_iff.1 hk).1).trans hk⟩

set_option maxRecDepth 100000 in
set_option maxHeartbeats 2000000 in
theorem eval_long (a : Nat) (A : Option Addr) (m c : Nat) (w : World) (hm : 4096 < m) :
    Calls Try.prog 8 #[.int .u64 a, .slice A m c] w fun e w' => e = .returned (.tuple #[.int .u64 0, .int .i64 4]) ∧ Below w.heap.size w w' := by
  have t1 : (4096 : Int) < (m : Int) := by omega
  go_enter Try.func8, Try.ntmps8
  go_wp2_with fail
  go_ret2
  exact ⟨rfl, (Below.refl _ _).alloc (Nat.le_refl _) _⟩
set_option maxHeartbeats 2000000 in
theorem eval_bad (a : Nat) (A : Option Addr) (m c : Nat) (w : World) (hm : m ≤ 4096) (ha : ¬ a < 2305843009213693951) :
    Calls Try.prog 8 #[.int .u64 a, .slice A m c] w fun e w' => e = .returned (.tuple #[.int .u64 0, .int .i64 2]) ∧ Below w.heap.size w w' := by
  have t1 : ¬ (4096 : Int) < (m : Int) := by omega
  have i1 := fun W => is61_no a ha W
  clear ha
  go_enter Try.func8, Try.ntmps8
  go_wp2_with (go_at_call 23; (with_reducible refine (i1 _).mono ?_); rintro e w2 ⟨rfl, rfl⟩)
  go_ret2
  exact ⟨rfl, (Below.refl _ _).alloc (Nat.le_refl _) _⟩
set_option maxRecDepth 100000 in
set_option maxHeartbeats 4000000 in
theorem eval_good (a : Nat) (ha : a < 2305843009213693951) (bs : List Nat) (hby : ∀ x ∈ bs, x < 256) (A : Option Addr) (m c : Nat) (hm : bs.length = m) (hmc : m ≤ c) (hm2 : m ≤ 4096) (w : World) (hR : Rs w A (by8 bs)) :
    Calls Try.prog 8 #[.int .u64 a, .slice A m c] w fun e w' => e = .returned (.tuple #[.int .u64 (horN a (chunksN bs) : Nat), .int .i64 0]) ∧ Below w.heap.size w w' := by
  refine (callsIn_wide (n := 6)).1 ?_
  have t1 : ¬ (4096 : Int) < (m : Int) := by omega
  have i1 := fun W => is61_yes a ha W
  refine callsIn_of_wp_marks Try.func8 rfl trivial ?_ rfl
  simp only [Try.ntmps8, List.size_toArray, List.length_cons, List.length_nil, Nat.reduceAdd, Nat.reduceSub, Array.replicate_succ, Array.replicate_zero, List.push_toArray, List.append_toArray, List.nil_append, List.cons_append]
  gi_wp2_with (first
    | (refine ⟨trivial, ?_⟩; gi_at_call 23; refine (callsIn_wide.2 (i1 _)).mono ?_; rintro e w2 ⟨rfl, rfl⟩)
    | (refine ⟨trivial, ?_⟩; gi_at_call 24; refine (callsIn_wide.2 (chunks_f A m c _)).mono ?_; rintro e w2 ⟨rfl, rfl⟩))
  have bA := Boxed.new w 22 (.int .u64 a)
  have bH := Boxed.new (w.alloc (.cells #[.int .u64 a] 22)) 22 (.int .u64 1)
  rw [World.size_alloc] at bH
  have bB := Boxed.new ((w.alloc (.cells #[.int .u64 a] 22)).alloc (.cells #[.int .u64 1] 22)) 23 (.slice A m c)
  rw [World.size_alloc, World.size_alloc] at bB
  have hB0 : Below w.heap.size w (((w.alloc (.cells #[.int .u64 a] 22)).alloc (.cells #[.int .u64 1] 22)).alloc (.cells #[.slice A m c] 23)) := (((Below.refl _ w).alloc (Nat.le_refl _) _).alloc (by simp) _).alloc (by simp; omega) _
  refine range_chunks 6 (by omega) (w.heap.size + 1 + 1) w.heap.size (by omega) rfl (enters_of Try.func41 (by kernel_rfl) rfl) bs A c m (chunks1_in 5 (by omega) _ _ (by omega) bs hby A m c hm hmc hm2) (hR.below hB0)
    (fun v pre W => (Boxed W (w.heap.size + 1 + 1) 23 v ∧ Boxed W w.heap.size 22 (.int .u64 a)) ∧ Boxed W (w.heap.size + 1) 22 (.int .u64 (horN a pre : Nat)) ∧ Below w.heap.size w W)
    (fun v pre W h => h.1.1) ?hset ?hdrew ?hI ⟨⟨bB, (bA.alloc _).alloc _⟩, bH.alloc _, hB0⟩
    (fun x => { tmps := #[Value.int IntKind.u64 ↑a, Value.slice A m c, Value.pointer (some { block := w.heap.size, off := 0 }), undef,  Value.int IntKind.u64 0, Value.int IntKind.i64 0, Value.pointer (some { block := w.heap.size + 1, off := 0 }), .int .u64 (x : Nat), Value.slice A m c, Value.int IntKind.i64 ↑m, Value.bool false, Value.int IntKind.u64 ↑a,  Value.bool true, Value.bool false, Value.slice A m c,
      Value.func (Fn.func 41) #[] #[Value.pointer (some { block := w.heap.size + 1 + 1, off := 0 })], .int .u64 (x : Nat), undef,  undef, undef, undef, undef, undef, undef, undef], defers := [] }) ?assign ?body ?done
  case hset =>
    rintro v v' pre W ⟨⟨hb, ha'⟩, hh, hB⟩
    exact ⟨⟨hb.set v', ha'.other (by omega) v'⟩, hh.other (by omega) v', hB.setCell (p := ⟨_, 0, none⟩) (by show w.heap.size ≤ w.heap.size + 1 + 1; omega) _⟩
  case hdrew =>
    rintro v pre W ⟨⟨hb, ha'⟩, hh, hB⟩
    exact ⟨⟨hb, ha'⟩, hh, hB.drew⟩
  case hI =>
    intro v
    exact OwnFrom.and (OwnFrom.and (Own.from (boxed_own _ 23 (fun _ => v)) _) (Own.from (boxed_own _ 22 (fun _ => _)) _)) (OwnFrom.and (Own.from (boxed_own _ 22 (fun pre => .int .u64 (horN a pre : Nat))) _) (ownFrom_below (Nat.le_refl _) (by simp; omega)))
  case assign =>
    intro l x W K hK
    simp only [List.setIfInBounds_toArray, List.set]
    gi_wp2
    exact hK
  case body =>
    rintro l v pre x W ⟨⟨hb, hA⟩, hH, hB⟩ ⟨rr, hpx⟩
    have cA := hA.cell
    have cH := hH.cell
    have hx : x < 2305843009213693951 := by
      have := chunksN_lt bs hby x (by rw [← hpx]; simp)
      omega
    have ap := append_yes a (horN a pre) x ha (horN_lt a pre) hx W
    obtain ⟨R, hRR⟩ : ∃ R, R = goesN a (horN a pre) x := ⟨_, rfl⟩
    rw [← hRR] at ap
    gi_wp2
    refine ⟨trivial, ?_⟩
    refine (CallsIn.inRound l (callsIn_wide.2 ap)).mono ?_
    rintro e w3 ⟨rfl, hb3⟩
    have hH3 := boxed_call hH hb3
    have cH3 := hH3.cell
    have fH3 := hH3.frozen
    gi_wp2

    have hset : ∀ u, Below w.heap.size w3 (w3.setCell ⟨w.heap.size + 1, 0, none⟩ u) := fun u => (Below.refl _ _).setCell (p := ⟨w.heap.size + 1, 0, none⟩) (by show w.heap.size ≤ w.heap.size + 1; omega) u
    have hWn : Below w.heap.size W w3 := hb3.mono hB.size
    refine ⟨((keeps_call hb3).trans (KeepsOthers.setCell _ _ _)).from _, hWn.trans (hset _), ⟨(boxed_call hb hb3).other (by omega) _, (boxed_call hA hb3).other (by omega) _⟩, ?_, hB.trans (hWn.trans (hset _))⟩
    rw [horN_snoc, ← hRR]
    exact hH3.set _
  case done =>
    rintro D v W hD ⟨⟨hb, hA⟩, hH, hB⟩ hB2 hK
    have cH := hH.cell
    gi_wp2
    refine ⟨by simp, .inl ⟨_, _, rfl, run_takeDeferred hK, ?_⟩⟩
    refine ⟨_, results_tmp2 rfl _ _ _, rfl, ?_⟩
    exact hB.trans (belowK_b (w := w) (by omega) W D _ _ (by simp at hD; omega) hK rfl rfl)
end Go.Proofs.Ytaeebipcgeembaa
