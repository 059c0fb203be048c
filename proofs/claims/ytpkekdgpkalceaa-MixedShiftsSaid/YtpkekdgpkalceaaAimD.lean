/-
  Walks of slices.Equal, of the reference's Same, of ContainsFunc over rows, and of tabs.same. Conditions: slices no longer than the form lets them be.
-/
import Derived.Test.YtpkekdgpkalceaaAimC
namespace Go.Proofs.Ytpkekdgpkalceaa
open Go.RowKit
set_option linter.unusedVariables false

set_option maxHeartbeats 1000000 in
theorem equal_any (A A' : Option Addr) (c c' B B' : Nat) (xs ys : List Int) (w : World) (hx : Rd w B A (is xs)) (hy : Rd w B' A' (is ys)) (hl : xs.length ≤ 17592186043904) (hl' : ys.length ≤ 17592186043904) (nx : Nat) (hnx : xs.length = nx) (ny : Nat) (hny : ys.length = ny) :
    Calls Try.prog 54 #[.slice A nx c, .slice A' ny c'] w fun e w' => e = .returned (.bool (decide (xs = ys))) ∧ Below w.heap.size w w' := by
  subst hnx
  subst hny
  by_cases hq : xs.length = ys.length
  · have hq1 : ((xs.length : Int) != (ys.length : Int)) = false := by simp; omega
    have HQ := hide hq
    have hle : xs.length ≤ ys.length := by omega
    clear hq
    go_enter Try.func54, Try.ntmps54
    go_wp2
    go_loopw [13] (fun i wr => ∃ k : Nat, k ≤ xs.length ∧ i = .int .i64 k ∧ Hid (xs.take k = ys.take k) ∧ Below w.heap.size w wr ∧ Rd wr B A (is xs) ∧ Rd wr B' A' (is ys)) (fun i _ => xs.length - (intOf i).toNat)
    case atStart => exact ⟨0, Nat.zero_le _, rfl, hide (by simp), Below.refl _ _, hx, hy⟩
    case round =>
      obtain ⟨k, hk, rfl, hH, hbel, hx', hy'⟩ := hrel
      clear hx hy
      by_cases hlt : k < xs.length
      · have hlt2 : k < ys.length := by omega
        obtain ⟨b, o, rfl, hb, hc⟩ := hx'.i hlt
        obtain ⟨b2, o2, rfl, hb2, hc2⟩ := hy'.i hlt2
        by_cases heq : xs[k] = ys[k]
        · have hb1 : (((xs[k] : Int) : Int) != ((ys[k] : Int) : Int)) = false := by simp [heq]
          have HE := hide heq; clear heq
          go_wp2
          go_quiet (fail)
          go_wp2
          go_roundw
          case rel => exact ⟨k + 1, by omega, by go_num, hide (by rw [List.take_succ_eq_append_getElem hlt, List.take_succ_eq_append_getElem hlt2, hH.out, HE.out]), below_drewN hbel _, hx'.drewN _, hy'.drewN _⟩
          case measure => simp [intOf]; omega
        · have hb1 : (((xs[k] : Int) : Int) != ((ys[k] : Int) : Int)) = true := by simp; exact_mod_cast heq
          have HE := hide heq; clear heq
          go_wp2
          go_quiet (fail)
          go_wp2
          go_ret
          exact ⟨ret_b (by symm; rw [decide_eq_false_iff_not]; intro h; exact HE.out (by simp only [h])), below_drewN hbel _⟩
      · go_wp2
        go_ret
        have hkb : k = xs.length := by omega
        subst hkb
        exact ⟨ret_b (by have h1 := hH.out; rw [List.take_length, HQ.out, List.take_length] at h1; simp [h1]), hbel⟩
  · have hq1 : ((xs.length : Int) != (ys.length : Int)) = true := by simp; omega
    have HQ := hide hq; clear hq
    go_enter Try.func54, Try.ntmps54
    go_wp2
    go_ret
    exact ⟨ret_b (by symm; rw [decide_eq_false_iff_not]; intro h; exact HQ.out (by rw [h])), Below.refl _ _⟩


set_option maxHeartbeats 1000000 in
theorem same_ref (A A' : Option Addr) (c c' B B' : Nat) (xs ys : List Int) (w : World) (hx : Rd w B A (is xs)) (hy : Rd w B' A' (is ys)) (hl : xs.length ≤ 17592186043904) (hl' : ys.length ≤ 17592186043904) (nx : Nat) (hnx : xs.length = nx) (ny : Nat) (hny : ys.length = ny) :
    Calls Try.prog 34 #[.slice A nx c, .slice A' ny c'] w fun e w' => e = .returned (.bool (decide (xs = ys))) ∧ Below w.heap.size w w' := by
  subst hnx
  subst hny
  by_cases hq : xs.length = ys.length
  · have hq1 : ((xs.length : Int) != (ys.length : Int)) = false := by simp; omega
    have HQ := hide hq
    have hle : xs.length ≤ ys.length := by omega
    clear hq
    go_enter Try.func34, Try.ntmps34
    go_wp2
    go_loopw [13] (fun i wr => ∃ k : Nat, k ≤ xs.length ∧ i = .int .i64 k ∧ Hid (xs.take k = ys.take k) ∧ Below w.heap.size w wr ∧ Rd wr B A (is xs) ∧ Rd wr B' A' (is ys)) (fun i _ => xs.length - (intOf i).toNat)
    case atStart => exact ⟨0, Nat.zero_le _, rfl, hide (by simp), Below.refl _ _, hx, hy⟩
    case round =>
      obtain ⟨k, hk, rfl, hH, hbel, hx', hy'⟩ := hrel
      clear hx hy
      by_cases hlt : k < xs.length
      · have hlt2 : k < ys.length := by omega
        obtain ⟨b, o, rfl, hb, hc⟩ := hx'.i hlt
        obtain ⟨b2, o2, rfl, hb2, hc2⟩ := hy'.i hlt2
        by_cases heq : xs[k] = ys[k]
        · have hb1 : (((xs[k] : Int) : Int) != ((ys[k] : Int) : Int)) = false := by simp [heq]
          have HE := hide heq; clear heq
          go_wp2
          go_quiet (fail)
          go_wp2
          go_roundw
          case rel => exact ⟨k + 1, by omega, by go_num, hide (by rw [List.take_succ_eq_append_getElem hlt, List.take_succ_eq_append_getElem hlt2, hH.out, HE.out]), below_drewN hbel _, hx'.drewN _, hy'.drewN _⟩
          case measure => simp [intOf]; omega
        · have hb1 : (((xs[k] : Int) : Int) != ((ys[k] : Int) : Int)) = true := by simp; exact_mod_cast heq
          have HE := hide heq; clear heq
          go_wp2
          go_quiet (fail)
          go_wp2
          go_ret
          exact ⟨ret_b (by symm; rw [decide_eq_false_iff_not]; intro h; exact HE.out (by simp only [h])), below_drewN hbel _⟩
      · go_wp2
        go_ret
        have hkb : k = xs.length := by omega
        subst hkb
        exact ⟨ret_b (by have h1 := hH.out; rw [List.take_length, HQ.out, List.take_length] at h1; simp [h1]), hbel⟩
  · have hq1 : ((xs.length : Int) != (ys.length : Int)) = true := by simp; omega
    have HQ := hide hq; clear hq
    go_enter Try.func34, Try.ntmps34
    go_wp2
    go_ret
    exact ⟨ret_b (by symm; rw [decide_eq_false_iff_not]; intro h; exact HQ.out (by rw [h])), Below.refl _ _⟩



theorem len1_any (A Ar : Option Addr) (c cr g n : Nat) (r : Nat) (r0 : Nat) (b o : Nat) (cc : Nat) (A0 : Option Addr) (W : World) (hbox : W.cell? ⟨g, 0, none⟩ = some (.slice (some ⟨b, o, none⟩) n cr)) (hn : 1 ≤ n) (h0 : W.cell? ⟨b, o, none⟩ = some (.slice A0 r0 cc)) :
    Calls Try.prog 27 #[.slice A r c, .pointer (some ⟨g, 0, none⟩)] W fun e w' => e = .returned (.bool (!(r == r0))) ∧ Below W.heap.size W w' := by
  have hb := Below.refl W.heap.size W
  go_enter Try.func27, Try.ntmps27
  go_wp2
  go_ret
  exact ⟨ret_b (by rw [Bool.eq_iff_iff]; simp; omega), hb⟩
theorem same1_any (A A' : Option Addr) (c c' g : Nat) (xs ys : List Int) (W : World) (hbox : W.cell? ⟨g, 0, none⟩ = some (.slice A' ys.length c')) (hx : Rs W A (is xs)) (hy : Rs W A' (is ys)) (hl : xs.length ≤ 17592186043904) (hl' : ys.length ≤ 17592186043904) (nx : Nat) (hnx : xs.length = nx) :
    Calls Try.prog 53 #[.slice A nx c, .pointer (some ⟨g, 0, none⟩)] W fun e w' => e = .returned (.bool (decide (xs = ys))) ∧ Below W.heap.size W w' := by
  have C := hide (equal_any A A' c c' _ _ xs ys W hx hy hl hl' nx hnx ys.length rfl)
  go_enter Try.func53, Try.ntmps53
  go_wp2_with fail
  refine C.out.mono ?_
  rintro e w1 ⟨rfl, hb⟩
  go_wp2
  go_ret
  exact ⟨rfl, hb⟩


set_option maxHeartbeats 1000000 in
theorem index_len (A : Option Addr) (c B n g : Nat) (rows : List (List Int)) (pr : List Int → Bool) (w : World) (hr : RdR w B A rows) (hB : B ≤ w.heap.size) (hl : rows.length ≤ 17592186043904) (hn : rows.length = n)
    (hcl : ∀ j, j < rows.length → ∀ A' c' W, Below w.heap.size w W → Rd W B A' (is (rows.getD j [])) → Calls Try.prog 27 #[.slice A' (rows.getD j []).length c', .pointer (some ⟨g, 0, none⟩)] W fun e w' => e = .returned (.bool (pr (rows.getD j []))) ∧ Below W.heap.size W w') :
    Calls Try.prog 50 #[.slice A n c, .func (.func 27) #[] #[.pointer (some ⟨g, 0, none⟩)]] w fun e w' => ∃ r : Int, e = .returned (.int .i64 r) ∧ decide (0 ≤ r) = rows.any pr ∧ Below w.heap.size w w' := by
  have HC := hide hcl
  clear hcl
  subst hn
  have hbb := Below.refl w.heap.size w
  go_enter Try.func50, Try.ntmps50
  go_wp2
  go_loopw [8] (fun i wr => ∃ k : Nat, k ≤ rows.length ∧ i = .int .i64 k ∧ Below w.heap.size w wr ∧ Hid (∀ j, j < k → pr (rows.getD j []) = false)) (fun i _ => rows.length - (intOf i).toNat)
  case atStart => exact ⟨0, Nat.zero_le _, rfl, Below.refl _ _, hide fun j h => absurd h (by omega)⟩
  case round =>
    obtain ⟨k, hk, rfl, hbr, hall⟩ := hrel
    by_cases hlt : k < rows.length
    · obtain ⟨b, o, A', c', rfl, hb, hc, hrk⟩ := (hr.call hB hbr).at_ hlt
      have C := hide (HC.out k hlt A' c' wr hbr hrk)
      have HY := hide (show pr (rows.getD k []) = true → rows.any pr = true from fun hbad => List.any_eq_true.2 ⟨rows.getD k [], by simp [List.getD, hlt], hbad⟩)
      have HNo := hide (show pr (rows.getD k []) = false → ∀ j, j < k + 1 → pr (rows.getD j []) = false from fun hbad j hj => by
        by_cases e : j = k
        · subst e; exact hbad
        · exact hall.out j (by omega))
      clear hrk
      generalize rows.getD k [] = rk at *
      go_wp2_with (go_at_call 27; refine C.out.mono ?_; rintro e w1 ⟨rfl, hb1⟩)
      · go_ret
        rename_i hbad
        refine ⟨k, rfl, ?_, below_call hbr (Nat.le_refl _) hb1⟩
        rw [HY.out hbad]; simp
      · rename_i hbad
        go_roundw
        case rel => exact ⟨k + 1, by omega, by go_num, below_call hbr (Nat.le_refl _) hb1, hide (HNo.out hbad)⟩
        case measure => simp [intOf]; omega
    · go_wp2_with fail
      go_ret
      have hkb : k = rows.length := by omega
      subst hkb
      refine ⟨-1, rfl, ?_, hbr⟩
      have : rows.any pr = false := by
        rw [List.any_eq_false]
        intro x hx
        obtain ⟨j, hj, rfl⟩ := List.getElem_of_mem hx
        have := hall.out j hj
        simpa [List.getD, hj] using this
      rw [this]; rfl
theorem contains_len (A : Option Addr) (c B n g : Nat) (rows : List (List Int)) (pr : List Int → Bool) (w : World) (hr : RdR w B A rows) (hB : B ≤ w.heap.size) (hl : rows.length ≤ 17592186043904) (hn : rows.length = n)
    (hcl : ∀ j, j < rows.length → ∀ A' c' W, Below w.heap.size w W → Rd W B A' (is (rows.getD j [])) → Calls Try.prog 27 #[.slice A' (rows.getD j []).length c', .pointer (some ⟨g, 0, none⟩)] W fun e w' => e = .returned (.bool (pr (rows.getD j []))) ∧ Below W.heap.size W w') :
    Calls Try.prog 26 #[.slice A n c, .func (.func 27) #[] #[.pointer (some ⟨g, 0, none⟩)]] w fun e w' => e = .returned (.bool (rows.any pr)) ∧ Below w.heap.size w w' := by
  have C := hide (index_len A c B n g rows pr w hr hB hl hn hcl)
  clear hcl
  go_enter Try.func26, Try.ntmps26
  go_wp2_with (go_at_call 50; refine C.out.mono ?_; rintro e w' ⟨r, rfl, hr2, hb2⟩)
  go_ret
  exact ⟨ret_b rfl, hb2⟩


set_option maxHeartbeats 1000000 in
theorem index_same (A : Option Addr) (c B n g : Nat) (rows : List (List Int)) (pr : List Int → Bool) (w : World) (hr : RdR w B A rows) (hB : B ≤ w.heap.size) (hl : rows.length ≤ 17592186043904) (hn : rows.length = n)
    (hcl : ∀ j, j < rows.length → ∀ A' c' W, Below w.heap.size w W → Rd W B A' (is (rows.getD j [])) → Calls Try.prog 53 #[.slice A' (rows.getD j []).length c', .pointer (some ⟨g, 0, none⟩)] W fun e w' => e = .returned (.bool (pr (rows.getD j []))) ∧ Below W.heap.size W w') :
    Calls Try.prog 50 #[.slice A n c, .func (.func 53) #[] #[.pointer (some ⟨g, 0, none⟩)]] w fun e w' => ∃ r : Int, e = .returned (.int .i64 r) ∧ decide (0 ≤ r) = rows.any pr ∧ Below w.heap.size w w' := by
  have HC := hide hcl
  clear hcl
  subst hn
  have hbb := Below.refl w.heap.size w
  go_enter Try.func50, Try.ntmps50
  go_wp2
  go_loopw [8] (fun i wr => ∃ k : Nat, k ≤ rows.length ∧ i = .int .i64 k ∧ Below w.heap.size w wr ∧ Hid (∀ j, j < k → pr (rows.getD j []) = false)) (fun i _ => rows.length - (intOf i).toNat)
  case atStart => exact ⟨0, Nat.zero_le _, rfl, Below.refl _ _, hide fun j h => absurd h (by omega)⟩
  case round =>
    obtain ⟨k, hk, rfl, hbr, hall⟩ := hrel
    by_cases hlt : k < rows.length
    · obtain ⟨b, o, A', c', rfl, hb, hc, hrk⟩ := (hr.call hB hbr).at_ hlt
      have C := hide (HC.out k hlt A' c' wr hbr hrk)
      have HY := hide (show pr (rows.getD k []) = true → rows.any pr = true from fun hbad => List.any_eq_true.2 ⟨rows.getD k [], by simp [List.getD, hlt], hbad⟩)
      have HNo := hide (show pr (rows.getD k []) = false → ∀ j, j < k + 1 → pr (rows.getD j []) = false from fun hbad j hj => by
        by_cases e : j = k
        · subst e; exact hbad
        · exact hall.out j (by omega))
      clear hrk
      generalize rows.getD k [] = rk at *
      go_wp2_with (go_at_call 53; refine C.out.mono ?_; rintro e w1 ⟨rfl, hb1⟩)
      · go_ret
        rename_i hbad
        refine ⟨k, rfl, ?_, below_call hbr (Nat.le_refl _) hb1⟩
        rw [HY.out hbad]; simp
      · rename_i hbad
        go_roundw
        case rel => exact ⟨k + 1, by omega, by go_num, below_call hbr (Nat.le_refl _) hb1, hide (HNo.out hbad)⟩
        case measure => simp [intOf]; omega
    · go_wp2_with fail
      go_ret
      have hkb : k = rows.length := by omega
      subst hkb
      refine ⟨-1, rfl, ?_, hbr⟩
      have : rows.any pr = false := by
        rw [List.any_eq_false]
        intro x hx
        obtain ⟨j, hj, rfl⟩ := List.getElem_of_mem hx
        have := hall.out j hj
        simpa [List.getD, hj] using this
      rw [this]; rfl
theorem contains_same (A : Option Addr) (c B n g : Nat) (rows : List (List Int)) (pr : List Int → Bool) (w : World) (hr : RdR w B A rows) (hB : B ≤ w.heap.size) (hl : rows.length ≤ 17592186043904) (hn : rows.length = n)
    (hcl : ∀ j, j < rows.length → ∀ A' c' W, Below w.heap.size w W → Rd W B A' (is (rows.getD j [])) → Calls Try.prog 53 #[.slice A' (rows.getD j []).length c', .pointer (some ⟨g, 0, none⟩)] W fun e w' => e = .returned (.bool (pr (rows.getD j []))) ∧ Below W.heap.size W w') :
    Calls Try.prog 26 #[.slice A n c, .func (.func 53) #[] #[.pointer (some ⟨g, 0, none⟩)]] w fun e w' => e = .returned (.bool (rows.any pr)) ∧ Below w.heap.size w w' := by
  have C := hide (index_same A c B n g rows pr w hr hB hl hn hcl)
  clear hcl
  go_enter Try.func26, Try.ntmps26
  go_wp2_with (go_at_call 50; refine C.out.mono ?_; rintro e w' ⟨r, rfl, hr2, hb2⟩)
  go_ret
  exact ⟨ret_b rfl, hb2⟩


theorem same_hit (rows : List (List Int)) (k : Nat) (hk : k < rows.length) (h : (rows.take k).any (fun o => decide (o = rows.getD k [])) = true) : sameV rows = true := by
  obtain ⟨o, ho, he⟩ := List.any_eq_true.1 h
  obtain ⟨j, hj, rfl⟩ := List.getElem_of_mem ho
  have hj' : j < k := by simp at hj; omega
  refine decide_eq_true ⟨k, hk, j, hj', ?_⟩
  have := of_decide_eq_true he
  simpa [List.getD, show j < rows.length by omega] using this
theorem same_miss (rows : List (List Int)) (h : ∀ k, k < rows.length → (rows.take k).any (fun o => decide (o = rows.getD k [])) = false) : sameV rows = false := by
  refine decide_eq_false fun ⟨i, hi, k, hk, he⟩ => ?_
  have := (List.any_eq_false.1 (h i hi)) (rows.getD k []) (by
    rw [List.mem_iff_getElem]
    exact ⟨k, by simp; omega, by simp [List.getD, show k < rows.length by omega]⟩)
  exact this (decide_eq_true he)

set_option maxHeartbeats 1000000 in
theorem same_any (A : Option Addr) (c B n : Nat) (rows : List (List Int)) (w : World) (hr : RdR w B A rows) (hB : B ≤ w.heap.size) (hl : rows.length ≤ 100) (hn : rows.length = n) (hcap : n ≤ c) (hll : ∀ j, j < rows.length → (rows.getD j []).length ≤ 17592186043904) :
    Calls Try.prog 29 #[.slice A n c] w fun e w' => e = .returned (.bool (sameV rows)) ∧ Below w.heap.size w w' := by
  subst hn
  have HLL := hide hll
  clear hll
  have hbb := Below.refl w.heap.size w
  go_enter Try.func29, Try.ntmps29
  go_wp2
  go_loopw [7] (fun i wr => ∃ k : Nat, k ≤ rows.length ∧ i = .int .i64 k ∧ Below w.heap.size w wr ∧ Hid (∀ j, j < k → (rows.take j).any (fun o => decide (o = rows.getD j [])) = false)) (fun i _ => rows.length - (intOf i).toNat)
  case atStart => exact ⟨0, Nat.zero_le _, rfl, Below.refl _ _, hide fun j h => absurd h (by omega)⟩
  case round =>
    obtain ⟨k, hk, rfl, hbr, hall⟩ := hrel
    by_cases hlt : k < rows.length
    · have hrr := hr.call hB hbr
      obtain ⟨b, o, A', c', rfl, hb, hc, hrk⟩ := hrr.at_ hlt
      have hBr : B ≤ wr.heap.size := Nat.le_trans hB hbr.size
      have hbW : ∀ v t, Below wr.heap.size wr (wr.alloc (.cells #[v] t)) := fun v t => Below.alloc (Below.refl _ _) (Nat.le_refl _) _
      have hrT : RdR wr B (some ⟨b, o, none⟩) (rows.take k) := hrr.take k
      have hlk := HLL.out k hlt
      have C := hide (fun t => contains_same (some ⟨b, o, none⟩) c B k wr.heap.size (rows.take k) (fun o => decide (o = rows.getD k [])) (wr.alloc (.cells #[.slice A' (rows.getD k []).length c'] t)) (hrT.call hBr (hbW _ t)) (Nat.le_trans hBr (hbW (.slice A' (rows.getD k []).length c') t).size) (by simp; omega) (by simp; omega)
        (fun j hj A2 c2 W hbq hrq => by
          have hj' : j < k ∧ j < rows.length := by simp at hj; omega
          have hll2 := HLL.out j hj'.2
          have hs1 := Nat.le_trans hBr (hbW (.slice A' (rows.getD k []).length c') t).size
          rw [getD_take _ _ _ _ hj'.1] at hrq ⊢
          have e1 : W.cell? ⟨wr.heap.size, 0, none⟩ = some (.slice A' (rows.getD k []).length c') := cell_call hbq (by simp [go_sem])
          exact same1_any A2 A' c2 c' wr.heap.size (rows.getD j []) (rows.getD k []) W e1 (hrq.more (Nat.le_trans hs1 hbq.size)) (((hrk.call hBr (hbW _ t)).call hs1 hbq).more (Nat.le_trans hs1 hbq.size)) hll2 hlk _ rfl))
      have HY := hide (same_hit rows k hlt)
      have HNo := hide (show (rows.take k).any (fun o => decide (o = rows.getD k [])) = false → ∀ j, j < k + 1 → (rows.take j).any (fun o => decide (o = rows.getD j [])) = false from fun hbad j hj => by
        by_cases e : j = k
        · subst e; exact hbad
        · exact hall.out j (by omega))
      clear hrk hlk hrT hrr
      generalize rows.getD k [] = rk at *
      generalize (rows.take k).any (fun o => decide (o = rk)) = yes at *
      go_wp2_with fail
      refine (C.out _).mono ?_
      rintro e w1 ⟨rfl, hb1⟩
      have hbT := below_call (below_call hbr (Nat.le_refl _) (hbW _ _)) (Nat.le_refl _) hb1
      clear hbW
      go_wp2_with fail
      · rename_i hyes
        go_ret
        exact ⟨ret_b (by rw [HY.out hyes]), hbT⟩
      · rename_i hno
        go_roundw
        case rel => exact ⟨k + 1, by omega, by go_num, hbT, hide (HNo.out hno)⟩
        case measure => simp [intOf]; omega
    · go_wp2
      go_ret
      have hkb : k = rows.length := by omega
      subst hkb
      exact ⟨ret_b (same_miss rows hall.out).symm, hbr⟩

end Go.Proofs.Ytpkekdgpkalceaa
