/-
  Walk of tabs.Shift. Conditions: slices no longer than the form lets them be.
-/
import Derived.Test.YtpkekdgpkalceaaShfA
namespace Go.Proofs.Ytpkekdgpkalceaa
open Go.RowKit
set_option linter.unusedVariables false

/-- Rows and numbers that a shift has collected, k of each. -/
structure SH (base : Nat) (wr : World) (q : Nat) (f : Nat → List Int) (g : Nat → Nat) (k : Nat) (A1 : Option Addr) (c1 : Nat) (A2 : Option Addr) (c2 : Nat) (vs : List Value) : Prop where
  o1 : wr.ownsRow base 29 1 (.slice A1 k c1) k vs
  o2 : wr.ownsRow base 30 1 (.slice A2 k c2) k (us ((List.range k).map g))
  row : ∀ j, j < k → ∃ A' c', vs[j]? = some (.slice A' q c') ∧ wr.ownsRow base 3 1 (.slice A' q c') q (is (f j))
section
variable {base : Nat} {wr w1 : World} {q : Nat} {f : Nat → List Int} {g : Nat → Nat} {k : Nat} {A1 : Option Addr} {c1 : Nat} {A2 : Option Addr} {c2 : Nat} {vs : List Value}
theorem SH.call (h : SH base wr q f g k A1 c1 A2 c2 vs) (hb : Below wr.heap.size wr w1) : SH base w1 q f g k A1 c1 A2 c2 vs :=
  ⟨own_carry h.o1 hb, own_carry h.o2 hb, fun j hj => by obtain ⟨A', c', h1, h2⟩ := h.row j hj; exact ⟨A', c', h1, own_carry h2 hb⟩⟩
theorem SH.drew (h : SH base wr q f g k A1 c1 A2 c2 vs) : SH base wr.drew q f g k A1 c1 A2 c2 vs := ⟨h.o1.drew, h.o2.drew, fun j hj => by obtain ⟨A', c', h1, h2⟩ := h.row j hj; exact ⟨A', c', h1, h2.drew⟩⟩
theorem SH.start (base : Nat) (w : World) (q : Nat) (f : Nat → List Int) (g : Nat → Nat) : SH base w q f g 0 none 0 none 0 [] :=
  ⟨World.ownsRow_nil _ _ _ _, World.ownsRow_nil _ _ _ _, fun j hj => by omega⟩
/-- A row more. -/
theorem SH.push1 (h : SH base wr q f g k A1 c1 A2 c2 vs) {A' A1' : Option Addr} {c' c1' : Nat} (hr : wr.ownsRow base 3 1 (.slice A' q c') q (is (f k))) {e' : TypeId} {u : Value}
    (hown : w1.ownsRow base 29 1 (.slice A1' (k + 1) c1') (k + 1) (vs ++ [.slice A' q c'])) (hg : (wr.alloc (.cells #[u] e')).grownBy w1 (Value.slice A1 k c1).ownBlock) :
    w1.ownsRow base 30 1 (.slice A2 k c2) k (us ((List.range k).map g)) ∧ ∀ j, j < k + 1 → ∃ A'' c'', (vs ++ [.slice A' q c'])[j]? = some (.slice A'' q c'') ∧ w1.ownsRow base 3 1 (.slice A'' q c'') q (is (f j)) := by
  have hvs : vs.length = k := by have := h.o1.1; simpa using this
  refine ⟨own_apart (h.o2.alloc _) (h.o1.alloc _) (by decide) hg, fun j hj => ?_⟩
  by_cases e : j = k
  · subst e
    exact ⟨A', c', by rw [List.getElem?_append_right (by omega), hvs]; simp, own_apart (hr.alloc _) (h.o1.alloc _) (by decide) hg⟩
  · obtain ⟨A'', c'', h1, h2⟩ := h.row j (by omega)
    exact ⟨A'', c'', by rw [List.getElem?_append_left (by omega)]; exact h1, own_apart (h2.alloc _) (h.o1.alloc _) (by decide) hg⟩
/-- And a number more. -/
theorem SH.push2 {v1 : Value} (h1 : wr.ownsRow base 29 1 v1 (k + 1) vs) (h2 : wr.ownsRow base 30 1 (.slice A2 k c2) k (us ((List.range k).map g)))
    (hrow : ∀ j, j < k + 1 → ∃ A' c', vs[j]? = some (.slice A' q c') ∧ wr.ownsRow base 3 1 (.slice A' q c') q (is (f j))) (hv : v1 = .slice A1 (k + 1) c1) {A2' : Option Addr} {c2' x : Nat} (hx : x = g k) {e' : TypeId} {u : Value}
    (hown : w1.ownsRow base 30 1 (.slice A2' (k + 1) c2') (k + 1) (us ((List.range k).map g) ++ [.int .u64 (x : Nat)])) (hg : (wr.alloc (.cells #[u] e')).grownBy w1 (Value.slice A2 k c2).ownBlock) :
    SH base w1 q f g (k + 1) A1 c1 A2' c2' vs := by
  subst hv
  subst hx
  refine ⟨own_apart (h1.alloc _) (h2.alloc _) (by decide) hg, ?_, fun j hj => ?_⟩
  · rw [List.range_succ, List.map_append, us_append]
    exact hown
  · obtain ⟨A', c', e1, e2⟩ := hrow j hj
    exact ⟨A', c', e1, own_apart (e2.alloc _) (h2.alloc _) (by decide) hg⟩
theorem SH.rdr (h : SH base wr q f g k A1 c1 A2 c2 vs) (hq : ∀ j, (f j).length = q) : RdR wr wr.heap.size A1 ((List.range k).map f) := fun hp => by
  have hk : 0 < k := by simpa using hp
  have hvs : vs.length = k := by have := h.o1.1; simpa using this
  obtain ⟨b, o, hA, hb, hc⟩ := (Rd.of_own h.o1) (by omega)
  refine ⟨b, o, hA, hb, fun j hj => ?_⟩
  have hj' : j < k := by simpa using hj
  obtain ⟨A', c', e1, e2⟩ := h.row j hj'
  have hget : ((List.range k).map f).getD j [] = f j := by simp [List.getD, hj']
  rw [hget, hq]
  exact ⟨A', c', hc j _ e1, Rd.of_own e2⟩
end
theorem keyRows_range (f : Nat → List Int) (xs : List Nat) : keyRows f xs = (List.range xs.length).map fun j => f (xs.getD j 0) := by
  refine List.ext_getElem (by simp [keyRows]) fun i h1 h2 => ?_
  have : i < xs.length := by simpa [keyRows] using h1
  simp [keyRows, List.getD, this]
theorem byV_range (b : Int) (words : List Nat) (f : Nat → List Int) (xs ys : List Nat) : byV b words (keyRows f xs) ys = (List.range xs.length).map fun j => lowV (sumV words (f (xs.getD j 0))) b ^^^ ys.getD j 0 := by
  unfold byV
  rw [len_keyRows]
  refine List.map_congr_left fun i hi => ?_
  rw [get_keyRows f xs i (List.mem_range.1 hi)]

/-- What a shift hands back. -/
def RetShift (w : World) (n : Nat) (z : Int) (out : List Nat) (e : Ending) (w' : World) : Prop :=
  ∃ A' n' c', e = .returned (.tuple #[.slice A' n' c', .int .i64 z]) ∧ (z = 0 → n' = n ∧ Rs w' A' (us out)) ∧ (z ≠ 0 → n' = 0) ∧ Below w.heap.size w w'
theorem RetShift.err {w w' : World} {n : Nat} {z : Int} {out : List Nat} (y : Int) (hz : z = y) (h0 : y ≠ 0) (hb : Below w.heap.size w w') : RetShift w n z out (.returned (.tuple #[.slice none 0 0, .int .i64 y])) w' := by
  subst hz
  exact ⟨none, 0, 0, rfl, fun h => absurd h h0, fun _ => rfl, hb⟩

set_option maxHeartbeats 8000000 in
theorem shift_any (A Ax Ay : Option Addr) (c cx cy n nx ny : Nat) (words xs ys : List Nat) (b : Int) (w : World) (hwd : Rs w A (us words)) (hx : Rs w Ax (us xs)) (hy : Rs w Ay (us ys))
    (hn : words.length = n) (hnx : xs.length = nx) (hny : ys.length = ny) (hl : n ≤ 17592186043904) (hl2 : nx ≤ 17592186043904) (hl3 : ny ≤ 17592186043904)
    (hw : ∀ x ∈ words, x < 18446744073709551616) (hxw : ∀ x ∈ xs, x < 18446744073709551616) (hyw : ∀ x ∈ ys, x < 18446744073709551616) :
    Calls Try.prog 13 #[.slice A n c, .int .i64 b, .slice Ax nx cx, .slice Ay ny cy] w (RetShift w n (shiftE n b xs ys) (shiftV words b xs ys)) := by
  have HN := hide hn
  have HX := hide hnx
  have HY := hide hny
  have HW := hide hw
  have HXW := hide hxw
  have HYW := hide hyw
  have hb0 := Below.refl w.heap.size w
  have C1 := hide (check_tabs A n c b w)
  clear hn hnx hny hw hxw hyw
  by_cases hc0 : chk n 128 b = 0
  · obtain ⟨hb1, hb2, hn128⟩ := chk_zero hc0
    have hn128' : n = 128 := by omega
    have HN128 := hide hn128'
    clear hn128 hn128'
    have HS := hide (show shiftE n b xs ys = targE b xs ys from by unfold shiftE; rw [if_pos hc0])
    rw [hc0] at C1
    by_cases hbad : nx < 1 ∨ 3 < nx ∨ nx ≠ ny
    · have hE := hide (show shiftE n b xs ys = 1 from by rw [HS.out]; unfold targE; rw [if_pos (by rw [HX.out, HY.out]; omega)])
      have h3 : (nx : Int) < 1 ∨ ((1 : Int) ≤ (nx : Int) ∧ (3 : Int) < (nx : Int)) ∨ ((1 : Int) ≤ (nx : Int) ∧ (nx : Int) ≤ 3 ∧ (nx : Int) ≠ (ny : Int)) := by omega
      clear hbad hc0
      rcases h3 with t1 | ⟨t1, t2⟩ | ⟨t1, t2, t3⟩
      · go_enter Try.func13, Try.ntmps13
        go_wp2_with fail
        refine C1.out.mono ?_
        rintro e w1 ⟨rfl, rfl⟩
        go_wp2_with fail
        go_ret2
        exact RetShift.err 1 hE.out (by omega) hb0
      · go_enter Try.func13, Try.ntmps13
        go_wp2_with fail
        refine C1.out.mono ?_
        rintro e w1 ⟨rfl, rfl⟩
        go_wp2_with fail
        go_ret2
        exact RetShift.err 1 hE.out (by omega) hb0
      · have t4 : ((nx : Int) != (ny : Int)) = true := by rw [bne_iff_ne]; exact t3
        clear t3
        go_enter Try.func13, Try.ntmps13
        go_wp2_with fail
        refine C1.out.mono ?_
        rintro e w1 ⟨rfl, rfl⟩
        go_wp2_with fail
        go_ret2
        exact RetShift.err 1 hE.out (by omega) hb0
    · have hnm : ny = nx := by omega
      have t1 : (1 : Int) ≤ (nx : Int) := by omega
      have t2 : (nx : Int) ≤ 3 := by omega
      subst hnm
      have HQ := hide (show 1 ≤ xs.length ∧ xs.length ≤ 3 ∧ xs.length = ys.length from by rw [HX.out, HY.out]; omega)
      have HC0 := hide hc0
      clear hbad hc0
      go_enter Try.func13, Try.ntmps13
      go_wp2_with fail
      refine C1.out.mono ?_
      rintro e w1 ⟨rfl, rfl⟩
      go_wp2_with fail
      go_loopw [11, 12, 40] (fun v11 v12 i wr => ∃ (k c1 c2 : Nat) (A1 A2 : Option Addr) (vs : List Value), k ≤ ny ∧ i = .int .i64 k ∧ v11 = .slice A1 k c1 ∧ v12 = .slice A2 k c2 ∧ Below w.heap.size w wr ∧ SH w.heap.size wr 8 (fun j => row8 (xs.getD j 0)) (fun j => lowV (sumV words (row8 (xs.getD j 0))) b ^^^ ys.getD j 0) k A1 c1 A2 c2 vs ∧ Hid (∀ j, j < k → tbad b xs ys j = false)) (fun _ _ i _ => ny - (intOf i).toNat)
      case atStart => exact ⟨0, 0, 0, none, none, [], Nat.zero_le _, rfl, rfl, rfl, hb0, SH.start _ _ _ _ _, hide fun j h => absurd h (by omega)⟩
      case round =>
        obtain ⟨k, c1, c2, A1, A2, vs, hk, rfl, rfl, rfl, hbr, S, hall⟩ := hrel
        by_cases hlt : k < ny
        · obtain ⟨b3, o3, rfl, hbl3, hc3⟩ := (Rd.below hx hbr).u2 (k := k) (by rw [HX.out]; exact hlt)
          obtain ⟨b4, o4, rfl, hbl4, hc4⟩ := (Rd.below hy hbr).u2 (k := k) (by rw [HY.out]; exact hlt)
          have t6 : (0 : Int) ≤ (k : Int) := by omega
          have t7 : (k : Int) < (ny : Int) := by omega
          have hx1 := getD_lt xs HXW.out k
          have hy1 := getD_lt ys HYW.out k
          have hkn : k < xs.length := by rw [HX.out]; exact hlt
          have HBAD := hide (fun (h : tbad b xs ys k = true) => HS.out.trans (targ_bad HQ.out.1 HQ.out.2.1 HQ.out.2.2 k hkn h))
          have HT := hide (show tbad b xs ys k = decide (4294967296 ≤ xs.getD k 0 ∨ lowV (ys.getD k 0) b ≠ ys.getD k 0) from rfl)
          have HNx := hide (show tbad b xs ys k = false → ∀ j, j < k + 1 → tbad b xs ys j = false from fun h j hj => by
            by_cases e : j = k
            · subst e; exact h
            · exact hall.out j (by omega))
          have C := hide (fun W => low_tabs (ys.getD k 0) b W hy1 hb1 hb2)
          have C2 := hide (eval_tabs A c w.heap.size words b (xs.getD k 0) wr (Rd.below hwd hbr) hbr.size (by rw [HN.out]; exact hl) HW.out hx1 n HN.out)
          have HEV := hide (show evalE words b (xs.getD k 0) = if xs.getD k 0 < 4294967296 then 0 else 2 from by unfold evalE; rw [HN.out, if_pos HC0.out])
          have HVV := hide (show evalE words b (xs.getD k 0) = 0 → evalV words b (xs.getD k 0) = lowV (sumV words (row8 (xs.getD k 0))) b from fun h => by unfold evalV; rw [if_pos h]; rfl)
          have C3 := hide (fun W => chars_n (xs.getD k 0) 8 8 rfl (by omega) W hx1)
          have hvl := lowV_lt _ b (sumV_lt words (row8 (xs.getD k 0)) HW.out)
          have hgk : Hid (((fun j => lowV (sumV words (row8 (xs.getD j 0))) b ^^^ ys.getD j 0) k) = lowV (sumV words (row8 (xs.getD k 0))) b ^^^ ys.getD k 0) := hide rfl
          have hfk : Hid (((fun j => row8 (xs.getD j 0)) k) = letters (xs.getD k 0) 8) := hide rfl
          clear hkn
          generalize (fun j => lowV (sumV words (row8 (xs.getD j 0))) b ^^^ ys.getD j 0) = gf at *
          generalize (fun j => row8 (xs.getD j 0)) = ff at *
          generalize tbad b xs ys k = tb at *
          generalize evalE words b (xs.getD k 0) = ev at *
          generalize evalV words b (xs.getD k 0) = vv at *
          generalize lowV (sumV words (row8 (xs.getD k 0))) b = sv at *
          generalize letters (xs.getD k 0) 8 = lt at *
          generalize xs.getD k 0 = x at *
          generalize ys.getD k 0 = y at *
          generalize lowV y b = ly at *
          go_wp2_with fail
          refine C2.out.mono ?_
          rintro e w1 ⟨rfl, hb5⟩
          replace S := S.call hb5
          replace hc4 := cell_call hb5 hc4
          replace hbr : Below w.heap.size w w1 := below_call hbr (Nat.le_refl _) hb5
          clear C2 hb5 hc3
          by_cases hbx : 4294967296 ≤ x
          · have HE := hide (HBAD.out (by rw [HT.out]; exact decide_eq_true (.inl hbx)))
            have e1 : ev = 2 := by rw [HEV.out, if_neg (by omega)]
            clear HBAD HT HNx hbx hc4
            subst e1
            go_wp2_with fail
            go_quiet (fail)
            go_wp2_with fail
            go_ret2
            exact RetShift.err 2 HE.out (by omega) (below_drewN hbr _)
          · have e1 : ev = 0 := by rw [HEV.out, if_pos (by omega)]
            have e2 := HVV.out e1
            subst e2
            subst e1
            by_cases hly : ly = y
            · have t9 : ((ly : Int) != (y : Int)) = false := by rw [hly]; simp
              have HE := hide (HNx.out (by rw [HT.out]; exact decide_eq_false (by rintro (h | h); omega; exact h hly)))
              clear HBAD HT HNx hbx hly HVV HEV
              go_wp2_with fail
              go_region_held3 (fun v => v.cell? ⟨b4, o4 + k, none⟩ = some (.int .u64 (y : Nat))) (exact hc4) ((go_at_call 35; (with_reducible refine (C.out _).mono ?_); rintro e w5 ⟨rfl, rfl⟩))
              replace hbr := hbr.drew
              replace S := S.drew
              go_wp2_with fail
              refine (C3.out _).mono ?_
              rintro e w2 ⟨A7, c7, rfl, hrow, hb6⟩
              replace S := S.call hb6
              replace hrow := own_lower hrow hbr.size
              rw [← hfk.out] at hrow
              replace hc4 := cell_call hb6 hc4
              replace hbr : Below w.heap.size w w2 := below_call hbr (Nat.le_refl _) hb6
              clear hb6 C3 C
              have hS1 := S.o1
              have hsz := hbr.size
              go_wp2_with (at_builtin; refine wp_append1g rfl _ _ _ rfl w.heap.size 29 _ (.slice none 0 0) 24 Try.underlying23 Try.infoRow rfl _ _ _ _ rfl hS1 _ rfl rfl (by omega) (by omega) hsz ?_)
              intro A8 c8 w3 hown8 hb8 hg8
              obtain ⟨o2', row'⟩ := S.push1 hrow hown8 hg8
              replace hc4 := (hb8.cell (p := ⟨b4, o4 + k, none⟩) hbl4).trans hc4
              replace hbr : Below w.heap.size w w3 := hbr.trans hb8
              have hsz3 := hbr.size
              clear hb8 hg8 S hrow hS1 hsz
              go_wp2_with (at_builtin; refine wp_append1g rfl _ _ _ rfl w.heap.size 30 _ (.int .u64 0) 8 Try.underlying22 Try.infoU64 rfl _ _ _ _ rfl o2' _ rfl rfl (by omega) (by omega) hsz3 ?_)
              intro A9 c9 w4 hown9 hb9 hg9
              rw [u64_xor_nat _ _ hvl hy1] at hown9
              have S2 := SH.push2 hown8 o2' row' rfl hgk.out.symm hown9 hg9
              replace hbr : Below w.heap.size w w4 := hbr.trans hb9
              clear hb9 hg9 o2' row' hown8 hown9 hsz3
              go_wp2_with fail
              go_roundw
              case rel => exact ⟨k + 1, c8, c9, A8, A9, _, by omega, by go_num, rfl, rfl, hbr, S2, hide HE.out⟩
              case measure => simp [intOf]; omega
            · have t9 : ((ly : Int) != (y : Int)) = true := by rw [bne_iff_ne]; omega
              have HE := hide (HBAD.out (by rw [HT.out]; exact decide_eq_true (.inr hly)))
              clear HBAD HT HNx hbx hly HVV HEV
              go_wp2_with fail
              go_region_held3 (fun v => v.cell? ⟨b4, o4 + k, none⟩ = some (.int .u64 (y : Nat))) (exact hc4) ((go_at_call 35; (with_reducible refine (C.out _).mono ?_); rintro e w5 ⟨rfl, rfl⟩))
              go_wp2_with fail
              go_ret2
              exact RetShift.err 2 HE.out (by omega) hbr.drew
        · have hkm : k = ny := by omega
          subst hkm
          have HT := hide (targ_ok HQ.out.1 HQ.out.2.1 HQ.out.2.2 (by rw [HX.out]; exact hall.out))
          have HR := hide (rows8_E n k xs HQ.out.1 HQ.out.2.1 HX.out HN128.out (fun i hi => (tbad_parts (hall.out i (by rw [← HX.out]; exact hi))).1))
          have HR2 := hide (show rowsE n (keyRows row8 xs) k = shiftE n b xs ys from by rw [HS.out, HT.out, HR.out])
          have hrd := S.rdr (fun j => len_letters _ 8)
          rw [← HX.out, ← keyRows_range] at hrd
          have hby := Rs.of_own S.o2
          have hbv := byV_range b words row8 xs ys
          rw [HX.out] at hbv
          rw [← hbv] at hby
          have hcap : k ≤ c1 := by
            rcases own_slice S.o1 with ⟨_, _, he, h1, _⟩
            injection he with _ _ he
            omega
          have C := hide (aim_any A A1 A2 c c1 c2 n k k words (byV b words (keyRows row8 xs) ys) (keyRows row8 xs) wr ((Rd.below hwd hbr).more hbr.size) hrd hby HN.out (by rw [len_keyRows, HX.out]) (by rw [len_byV, len_keyRows, HX.out]) hl hl2 hl2 hcap
            (fun j hj => by rw [get_keyRows row8 xs j (by rw [len_keyRows] at hj; exact hj)]; show (letters _ 8).length ≤ _; rw [len_letters]; omega) HW.out (byV_lt _ _ _ _ HW.out HYW.out))
          clear hrd hby hbv S hall HT
          go_wp2_with fail
          refine C.out.mono ?_
          intro e w1 hq
          obtain ⟨A', n', c', rfl, h1, h2, h3⟩ := hq
          rw [HR2.out] at h1 h2 ⊢
          go_wp2_with fail
          go_ret2
          exact ⟨A', n', c', rfl, fun h => ⟨(h1 h).1, (h1 h).2⟩, h2, below_call hbr (Nat.le_refl _) h3⟩
  · have hE := hide (show shiftE n b xs ys = chk n 128 b from by unfold shiftE; rw [if_neg hc0])
    have t5 : (chk n 128 b != 0) = true := by rw [bne_iff_ne]; exact hc0
    have HC0 := hide hc0
    clear hc0
    generalize chk n 128 b = z at *
    go_enter Try.func13, Try.ntmps13
    go_wp2_with fail
    refine C1.out.mono ?_
    rintro e w1 ⟨rfl, rfl⟩
    go_wp2_with fail
    go_ret2
    exact RetShift.err z hE.out HC0.out hb0
end Go.Proofs.Ytpkekdgpkalceaa
