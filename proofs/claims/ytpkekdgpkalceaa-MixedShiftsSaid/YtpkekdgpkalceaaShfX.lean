/-
  Walks of mixed.Shift and its closure. Conditions: slices no longer than the form lets them be, and no longer than their capacity.
-/
import Derived.Test.YtpkekdgpkalceaaShfW
import Derived.Deep.RegionHeld3
namespace Go.Proofs.Ytpkekdgpkalceaa
open Go.RowKit
set_option linter.unusedVariables false

theorem mrow_own (A : Option Addr) (c : Nat) (words : List Nat) (x : Nat) (w : World) (hwd : Rs w A (us words)) (hl : words.length ≤ 17592186043904)
    (hw : ∀ x ∈ words, x < 18446744073709551616) (hx : x < 18446744073709551616) (n : Nat) (hn : words.length = n) (hnc : n ≤ c) (h0 : n = 320) (h32 : x < 4294967296) :
    Calls Try.prog 38 #[.slice A n c, .int .u64 x] w fun e w' => ∃ A' c', e = .returned (.tuple #[.slice A' 12 c', .int .i64 0]) ∧ w'.ownsRow w.heap.size 3 1 (.slice A' 12 c') 12 (is (mrow words x)) ∧ Below w.heap.size w w' := by
  have hk : keyE n 320 x = 0 := by simp [keyE, h0, h32]
  have hv : mrowV words x = mrow words x := by unfold mrowV; rw [hn, hk]; rfl
  have hlen : (is (mrow words x)).length = 12 := by rw [len_is, len_mrow]
  refine (mrow_any A c w.heap.size words x w hwd (Nat.le_refl _) hl hw hx n hn hnc).mono ?_
  rintro e w' ⟨A', c', rfl, hown, hb⟩
  rw [hv, hlen] at hown
  exact ⟨A', c', by rw [hv, hlen, hk], hown, hb⟩

set_option maxHeartbeats 8000000 in
theorem add_bad (A : Option Addr) (c n : Nat) (words : List Nat) (b : Int) (x y base : Nat) (W : World) (hwd : Rs W A (us words)) (B0 : Boxed W base 22 (.slice A n c)) (B1 : Boxed W (base + 1) 3 (.int .i64 b)) (g2 g3 : Nat)
    (hn : words.length = n) (hl : n ≤ 17592186043904) (hnc : n ≤ c) (hw : ∀ x ∈ words, x < 18446744073709551616) (hc0 : chk n 320 b = 0) (hx : x < 18446744073709551616) (hy : y < 18446744073709551616) (hbad : 4294967296 ≤ x ∨ lowV y b ≠ y) :
    Calls Try.prog 40 #[.int .u64 x, .int .u64 y, .pointer (some ⟨base, 0, none⟩), .pointer (some ⟨base + 1, 0, none⟩), .pointer (some ⟨g2, 0, none⟩), .pointer (some ⟨g3, 0, none⟩)] W fun e w' => e = .returned (.int .i64 2) ∧ Below W.heap.size W w' := by
  obtain ⟨hb1, hb2, _⟩ := chk_zero hc0
  have C2 := hide (meval_any A c W.heap.size words b x W hwd (Nat.le_refl _) (by omega) hw hx n hn hnc)
  have HEV := hide (show mevE words b x = if x < 4294967296 then 0 else 2 from by unfold mevE; rw [hn, if_pos hc0])
  have C := hide (fun W => low_mixed y b W hy hb1 hb2)
  have k0 := B0.cell
  have k1 := B1.cell
  clear hn hw hc0 hwd
  generalize mevE words b x = ev at *
  generalize mevV words b x = vv at *
  generalize lowV y b = ly at *
  go_enter Try.func40, Try.ntmps40
  go_wp2_with fail
  refine C2.out.mono ?_
  rintro e w1 ⟨rfl, hb5⟩
  have k1' := cell_call hb5 k1
  by_cases h32 : x < 4294967296
  · have e1 : ev = 0 := by rw [HEV.out, if_pos h32]
    have t9 : ((ly : Int) != (y : Int)) = true := by rw [bne_iff_ne]; rcases hbad with h | h <;> omega
    subst e1
    clear hbad h32
    go_wp2_with fail
    refine (C.out _).mono ?_
    rintro e w2 ⟨rfl, rfl⟩
    go_wp2_with fail
    go_ret
    exact ⟨rfl, hb5⟩
  · have e1 : ev = 2 := by rw [HEV.out, if_neg h32]
    subst e1
    clear hbad h32
    go_wp2_with fail
    go_ret
    exact ⟨rfl, hb5⟩

set_option maxHeartbeats 8000000 in
theorem add_good (A : Option Addr) (c n : Nat) (words : List Nat) (b : Int) (f : Nat → List Int) (g : Nat → Nat) (k x y base : Nat) (W : World) (hwd : Rs W A (us words)) (M : MB base W words A n c b f g k) (hbs : base + 3 < W.heap.size)
    (hn : words.length = n) (hl : n ≤ 17592186043904) (hnc : n ≤ c) (hw : ∀ x ∈ words, x < 18446744073709551616) (hc0 : chk n 320 b = 0) (hx : x < 18446744073709551616) (hy : y < 18446744073709551616) (hk : k ≤ 2)
    (h32 : x < 4294967296) (hlow : lowV y b = y) (hf : f k = mrow words x) (hg : g k = lowV (sumV (words.take 192) (mrow words x)) b ^^^ y) :
    Calls Try.prog 40 #[.int .u64 x, .int .u64 y, .pointer (some ⟨base, 0, none⟩), .pointer (some ⟨base + 1, 0, none⟩), .pointer (some ⟨base + 2, 0, none⟩), .pointer (some ⟨base + 3, 0, none⟩)] W fun e w' => e = .returned (.int .i64 0) ∧ MB base w' words A n c b f g (k + 1) ∧ Below base W w' := by
  obtain ⟨hb1, hb2, hn320⟩ := chk_zero hc0
  have hn320 : n = 320 := by omega
  obtain ⟨B0, B1, A1, c1, A2, c2, vs, B2, B3, S⟩ := M
  have C2 := hide (meval_any A c W.heap.size words b x W hwd (Nat.le_refl _) (by omega) hw hx n hn hnc)
  obtain ⟨m1, m2⟩ := mev_of words b x (by omega) (by have h := hc0; rw [hn320] at h; exact h) h32
  rw [m1, m2] at C2
  have C := hide (fun W => low_mixed y b W hy hb1 hb2)
  rw [hlow] at C
  have C3 := hide (fun (W1 : World) (h : Below W.heap.size W W1) => mrow_own A c words x W1 ((Rd.below hwd h).more h.size) (by omega) hw hx n hn hnc hn320 h32)
  have HV := lowV_lt _ b (sumV_lt (words.take 192) (mrow words x) (take_lt words hw 192))
  have HF := hide hf
  have HG := hide hg
  have k0 := B0.cell
  have k1 := B1.cell
  clear hn hw hc0 hwd hn320 hf hg m1 m2 hlow h32
  generalize lowV (sumV (words.take 192) (mrow words x)) b = sv at *
  go_enter Try.func40, Try.ntmps40
  go_wp2_with fail
  refine C2.out.mono ?_
  rintro e w1 ⟨rfl, hb5⟩
  have k0' := cell_call hb5 k0
  have k1' := cell_call hb5 k1
  clear k0 k1
  go_wp2_with fail
  refine (C.out _).mono ?_
  rintro e w2 ⟨rfl, rfl⟩
  go_wp2_with fail
  refine (C3.out _ hb5).mono ?_
  rintro e w2 ⟨A7, c7, rfl, hrow, hb6⟩
  have hb56 : Below W.heap.size W w2 := below_call hb5 (Nat.le_refl _) hb6
  replace S := S.call hb56
  replace B0 := Boxed.call B0 hb56
  replace B1 := Boxed.call B1 hb56
  replace B2 := Boxed.call B2 hb56
  replace B3 := Boxed.call B3 hb56
  have hsz2 : base + 3 < w2.heap.size := Nat.lt_of_lt_of_le hbs hb56.size
  replace hrow := own_lower hrow (Nat.le_trans (show base ≤ W.heap.size by omega) hb5.size)
  rw [← HF.out] at hrow
  have hbel : Below base W w2 := hb56.mono (by omega)
  have k2 := B2.cell
  have z2 := B2.frozen
  have hS1 := S.o1
  clear hb5 hb6 hb56 C C2 C3 k0' k1' hbs
  go_wp2_with (at_builtin; refine wp_append1g rfl _ _ _ rfl base 29 _ (.slice none 0 0) 24 Try.underlying23 Try.infoRow rfl _ _ _ _ rfl hS1 _ rfl rfl (by omega) (by omega) (by omega) ?_)
  intro A8 c8 w3 hown8 hb8 hg8
  obtain ⟨o2', row'⟩ := S.push1 hrow hown8 hg8
  replace B0 := (B0.alloc _).kept hg8 (B0.not_row (by decide) hS1)
  replace B1 := (B1.alloc _).kept hg8 (B1.not_row (by decide) hS1)
  replace B2 := (B2.alloc _).kept hg8 (B2.not_row (by decide) hS1)
  replace B3 := (B3.alloc _).kept hg8 (B3.not_row (by decide) hS1)
  have hbel3 : Below base W w3 := hbel.trans hb8
  have hsz3 : base + 3 < w3.heap.size := B3.lt
  have hbel4 : Below base W (w3.setCell ⟨base + 2, 0, none⟩ (.slice A8 (k + 1) c8)) := hbel3.setCell (show base ≤ base + 2 by omega) _
  have k2 := B2.cell
  have z2 := B2.frozen
  have B0' := B0.other (show base ≠ base + 2 by omega) (.slice A8 (k + 1) c8)
  have B1' := B1.other (show base + 1 ≠ base + 2 by omega) (.slice A8 (k + 1) c8)
  have B2' := B2.set (.slice A8 (k + 1) c8)
  have B3' := B3.other (show base + 3 ≠ base + 2 by omega) (.slice A8 (k + 1) c8)
  have o1'' := hown8.kept (grownBy_setCell' w3 (base + 2) (.slice A8 (k + 1) c8)) (.inr (B2.not_row (by decide) hown8).symm)
  have o2'' := o2'.kept (grownBy_setCell' w3 (base + 2) (.slice A8 (k + 1) c8)) (.inr (B2.not_row (by decide) o2').symm)
  have row'' : ∀ j, j < k + 1 → ∃ A'' c'', (vs ++ [.slice A7 12 c7])[j]? = some (.slice A'' 12 c'') ∧ (w3.setCell ⟨base + 2, 0, none⟩ (.slice A8 (k + 1) c8)).ownsRow base 3 1 (.slice A'' 12 c'') 12 (is (f j)) := fun j hj => by
    obtain ⟨A', c', e1, e2⟩ := row' j hj
    exact ⟨A', c', e1, e2.kept (grownBy_setCell' _ _ _) (.inr (B2.not_row (by decide) e2).symm)⟩
  have k3 := B3'.cell
  have hsz4 : base ≤ (w3.setCell ⟨base + 2, 0, none⟩ (.slice A8 (k + 1) c8)).heap.size := by have := B3'.lt; omega
  have hszE : (w3.setCell ⟨base + 2, 0, none⟩ (.slice A8 (k + 1) c8)).heap.size = w3.heap.size := by simp [World.setCell]
  clear hb8 hg8 S hrow hS1 hsz2 hbel hbel3 B0 B1 B3 o2' row'
  go_wp2_with (at_builtin; refine wp_append1g rfl _ _ _ rfl base 30 _ (.int .u64 0) 8 Try.underlying22 Try.infoU64 rfl _ _ _ _ rfl o2'' _ (by rw [hszE]; rfl) rfl (by omega) (by omega) hsz4 ?_)
  intro A9 c9 w5 hown9 hb9 hg9
  rw [u64_xor_nat _ _ HV hy] at hown9
  have S2 := SH.push2 o1'' o2'' row'' rfl HG.out.symm hown9 hg9
  replace B0' := (B0'.alloc _).kept hg9 (B0'.not_row (by decide) o2'')
  replace B1' := (B1'.alloc _).kept hg9 (B1'.not_row (by decide) o2'')
  replace B2' := (B2'.alloc _).kept hg9 (B2'.not_row (by decide) o2'')
  replace B3' := (B3'.alloc _).kept hg9 (B3'.not_row (by decide) o2'')
  have hbel5 : Below base W w5 := hbel4.trans hb9
  have k3 := B3'.cell
  have z3 := B3'.frozen
  clear hg9 hb9 hbel4 o1'' o2'' row'' k2 z2
  go_wp2_with fail
  go_ret
  exact ⟨rfl, ⟨B0'.other (by omega) _, B1'.other (by omega) _, A8, c8, A9, c9, _, B2'.other (by omega) _, B3'.set _, S2.store B3' _ (by decide) (by decide) (by decide)⟩, hbel5.setCell (show base ≤ base + 3 by omega) _⟩

set_option maxHeartbeats 8000000 in
theorem mshift_any (A Ax Ay : Option Addr) (c cx cy n nx ny : Nat) (words xs ys : List Nat) (b : Int) (w : World) (hwd : Rs w A (us words)) (hx : Rs w Ax (us xs)) (hy : Rs w Ay (us ys))
    (hn : words.length = n) (hnx : xs.length = nx) (hny : ys.length = ny) (hl : n ≤ 17592186043904) (hl2 : nx ≤ 17592186043904) (hl3 : ny ≤ 17592186043904) (hnc : n ≤ c)
    (hw : ∀ x ∈ words, x < 18446744073709551616) (hxw : ∀ x ∈ xs, x < 18446744073709551616) (hyw : ∀ x ∈ ys, x < 18446744073709551616) :
    Calls Try.prog 18 #[.slice A n c, .int .i64 b, .slice Ax nx cx, .slice Ay ny cy] w (RetShC w n (mshE n b xs ys) (mshV words b xs ys)) := by
  have HN := hide hn
  have HX := hide hnx
  have HY := hide hny
  have HW := hide hw
  have HXW := hide hxw
  have HYW := hide hyw
  have hb0 := Below.refl w.heap.size w
  have C1 := hide (fun W => check_mixed A n c b W)
  clear hn hnx hny hw hxw hyw
  obtain ⟨W2, hW2⟩ : ∃ W2, W2 = (w.alloc (.cells #[.slice A n c] 22)).alloc (.cells #[.int .i64 b] 3) := ⟨_, rfl⟩
  have hs2 : W2.heap.size = w.heap.size + 2 := by rw [hW2]; simp
  have box0 : Boxed W2 w.heap.size 22 (.slice A n c) := by rw [hW2]; exact (Boxed.new _ _ _).alloc _
  have box1 : Boxed W2 (w.heap.size + 1) 3 (.int .i64 b) := by
    rw [hW2]
    have := Boxed.new (w.alloc (.cells #[.slice A n c] 22)) 3 (.int .i64 b)
    rwa [show (w.alloc (.cells #[.slice A n c] 22)).heap.size = w.heap.size + 1 by simp] at this
  have hbW : Below w.heap.size w W2 := by rw [hW2]; exact ((Below.refl _ _).alloc (Nat.le_refl _) _).alloc (by simp) _
  have k0 := box0.cell
  have k1 := box1.cell
  by_cases hc0 : chk n 320 b = 0
  · obtain ⟨hb1, hb2, hn320⟩ := chk_zero hc0
    have HS := hide (show mshE n b xs ys = targE b xs ys from by unfold mshE; rw [if_pos hc0])
    have HN2 := hide (show n = 320 by omega)
    have HC0 := hide hc0
    rw [hc0] at C1
    have hc320 : 320 ≤ c := by omega
    have hln : words.length = 320 := by rw [HN.out, HN2.out]
    have HLN := hide hln
    clear hn320
    by_cases hbad : nx < 1 ∨ 3 < nx ∨ nx ≠ ny
    · have hE := hide (show mshE n b xs ys = 1 from by rw [HS.out]; unfold targE; rw [if_pos (by rw [HX.out, HY.out]; omega)])
      have h3 : (nx : Int) < 1 ∨ ((1 : Int) ≤ (nx : Int) ∧ (3 : Int) < (nx : Int)) ∨ ((1 : Int) ≤ (nx : Int) ∧ (nx : Int) ≤ 3 ∧ (nx : Int) ≠ (ny : Int)) := by omega
      clear hbad hc0 hln
      rcases h3 with t1 | ⟨t1, t2⟩ | ⟨t1, t2, t3⟩
      · go_enter Try.func18, Try.ntmps18
        go_wp2_with fail
        rw [← hW2]
        clear hW2
        refine (C1.out _).mono ?_
        rintro e w1 ⟨rfl, rfl⟩
        go_wp2_with fail
        go_ret2
        exact RetShC.err 1 hE.out (by omega) hbW
      · go_enter Try.func18, Try.ntmps18
        go_wp2_with fail
        rw [← hW2]
        clear hW2
        refine (C1.out _).mono ?_
        rintro e w1 ⟨rfl, rfl⟩
        go_wp2_with fail
        go_ret2
        exact RetShC.err 1 hE.out (by omega) hbW
      · have t4 : ((nx : Int) != (ny : Int)) = true := by rw [bne_iff_ne]; exact t3
        clear t3
        go_enter Try.func18, Try.ntmps18
        go_wp2_with fail
        rw [← hW2]
        clear hW2
        refine (C1.out _).mono ?_
        rintro e w1 ⟨rfl, rfl⟩
        go_wp2_with fail
        go_ret2
        exact RetShC.err 1 hE.out (by omega) hbW
    · have hnm : ny = nx := by omega
      have t1 : (1 : Int) ≤ (nx : Int) := by omega
      have t2 : (nx : Int) ≤ 3 := by omega
      have HQ := hide (show 1 ≤ xs.length ∧ xs.length ≤ 3 ∧ xs.length = ys.length from by rw [HX.out, HY.out]; omega)
      subst hnm
      obtain ⟨wb, wo, rfl, hwb⟩ := hwd.addr (by rw [len_us]; omega)
      obtain ⟨ff, hff⟩ : ∃ ff : Nat → List Int, ff = fun j => mrow words (xs.getD j 0) := ⟨_, rfl⟩
      obtain ⟨gf, hgf⟩ : ∃ gf : Nat → Nat, gf = fun j => lowV (sumV (words.take 192) (mrow words (xs.getD j 0))) b ^^^ ys.getD j 0 := ⟨_, rfl⟩
      have HFF := hide hff
      have HGF := hide hgf
      clear hbad hc0 hln hff hgf
      obtain ⟨W4, hW4⟩ : ∃ W4, W4 = (W2.alloc (.cells #[.slice none 0 0] 23)).alloc (.cells #[.slice none 0 0] 22) := ⟨_, rfl⟩
      have hbW4 : Below w.heap.size w W4 := by rw [hW4]; exact (hbW.alloc (by omega) _).alloc (by simp; omega) _
      have M0 : MB w.heap.size W4 words (some ⟨wb, wo, none⟩) n c b ff gf 0 := by
        refine ⟨by rw [hW4]; exact (box0.alloc _).alloc _, by rw [hW4]; exact (box1.alloc _).alloc _, none, 0, none, 0, [], ?_, ?_, SH.start _ _ _ _ _⟩
        · rw [hW4]
          have := (Boxed.new W2 23 (.slice none 0 0)).alloc (.cells #[.slice none 0 0] 22)
          rwa [hs2] at this
        · rw [hW4]
          have := Boxed.new (W2.alloc (.cells #[.slice none 0 0] 23)) 22 (.slice none 0 0)
          rwa [show (W2.alloc (.cells #[.slice none 0 0] 23)).heap.size = w.heap.size + 3 by simp; omega] at this
      clear box0 box1
      go_enter Try.func18, Try.ntmps18
      go_wp2_with fail
      rw [← hW2]
      clear hW2
      refine (C1.out _).mono ?_
      rintro e w1 ⟨rfl, rfl⟩
      go_wp2_with fail
      rw [← hW4]
      clear hW4 hbW k0 k1 hs2
      go_loopw [43] (fun i wr => ∃ k : Nat, k ≤ ny ∧ i = .int .i64 k ∧ Below w.heap.size w wr ∧ MB w.heap.size wr words (some ⟨wb, wo, none⟩) n c b ff gf k ∧ Hid (∀ j, j < k → tbad b xs ys j = false)) (fun i _ => ny - (intOf i).toNat)
      case atStart => exact ⟨0, Nat.zero_le _, rfl, hbW4, M0, hide fun j h => absurd h (by omega)⟩
      case round =>
        clear M0 hbW4
        obtain ⟨k, hk, rfl, hbr, M, hall⟩ := hrel
        by_cases hlt : k < ny
        · obtain ⟨b3, o3, rfl, hbl3, hc3⟩ := (Rd.below hx hbr).u2 (k := k) (by rw [HX.out]; exact hlt)
          obtain ⟨b4, o4, rfl, hbl4, hc4⟩ := (Rd.below hy hbr).u2 (k := k) (by rw [HY.out]; exact hlt)
          have t7 : (k : Int) < (ny : Int) := by omega
          have hx1 := getD_lt xs HXW.out k
          have hy1 := getD_lt ys HYW.out k
          have hkn : k < xs.length := by rw [HX.out]; exact hlt
          have hwr : Rs wr (some ⟨wb, wo, none⟩) (us words) := (Rd.below hwd hbr).more hbr.size
          cases htb : tbad b xs ys k
          · obtain ⟨p1, p2⟩ := tbad_parts htb
            have HE := hide (show ∀ j, j < k + 1 → tbad b xs ys j = false from fun j hj => by
              by_cases e : j = k
              · subst e; exact htb
              · exact hall.out j (by omega))
            have hb3 : w.heap.size + 3 < wr.heap.size := by
              obtain ⟨_, _, _, _, _, _, _, _, h3, _⟩ := M
              exact h3.lt
            have C := hide (add_good (some ⟨wb, wo, none⟩) c n words b ff gf k (xs.getD k 0) (ys.getD k 0) w.heap.size wr hwr M hb3 HN.out hl hnc HW.out HC0.out hx1 hy1 (by omega) p1 p2 (by rw [HFF.out]) (by rw [HGF.out]))
            clear p1 p2 htb hwr M hkn
            generalize xs.getD k 0 = x at *
            generalize ys.getD k 0 = y at *
            go_wp2_with fail
            refine C.out.mono ?_
            rintro e w5 ⟨rfl, M5, hb5⟩
            go_wp2_with fail
            go_roundw
            case rel => exact ⟨k + 1, by omega, by go_num, hbr.trans hb5, M5, hide HE.out⟩
            case measure => simp [intOf]; omega
          · have HE := hide (HS.out.trans (targ_bad HQ.out.1 HQ.out.2.1 HQ.out.2.2 k hkn htb))
            have hbd : 4294967296 ≤ xs.getD k 0 ∨ lowV (ys.getD k 0) b ≠ ys.getD k 0 := of_decide_eq_true htb
            have C := hide (add_bad (some ⟨wb, wo, none⟩) c n words b (xs.getD k 0) (ys.getD k 0) w.heap.size wr hwr M.b0 M.b1 (w.heap.size + 2) (w.heap.size + 3) HN.out hl hnc HW.out HC0.out hx1 hy1 hbd)
            clear htb hwr M hkn hbd
            generalize xs.getD k 0 = x at *
            generalize ys.getD k 0 = y at *
            go_wp2_with fail
            refine C.out.mono ?_
            rintro e w5 ⟨rfl, hb5⟩
            go_wp2_with fail
            go_ret2
            exact RetShC.err 2 HE.out (by omega) (below_call hbr (Nat.le_refl _) hb5)
        · have hkm : k = ny := by omega
          subst hkm
          have HT := hide (targ_ok HQ.out.1 HQ.out.2.1 HQ.out.2.2 (by rw [HX.out]; exact hall.out))
          have HR := hide (rowsM_E words 192 k xs HQ.out.1 HQ.out.2.1 HX.out rfl (fun i hi => (tbad_parts (hall.out i (by rw [← HX.out]; exact hi))).1))
          have HR2 := hide (show rowsE 192 (rowsM words xs) k = mshE n b xs ys from by rw [HS.out, HT.out, HR.out])
          obtain ⟨B0, B1, A1, c1, A2, c2, vs, B2, B3, S⟩ := M
          have hrd := S.rdr (fun j => by rw [HFF.out]; exact len_mrow words _)
          have hrr : (List.range k).map ff = rowsM words xs := by rw [HFF.out, ← HX.out]; exact (keyRows_range (mrow words) xs).symm
          have hbb : (List.range k).map gf = byV b (words.take 192) (rowsM words xs) ys := by rw [HGF.out, ← HX.out]; exact (byV_range b (words.take 192) (mrow words) xs ys).symm
          rw [hrr] at hrd
          have hby := Rs.of_own S.o2
          rw [hbb] at hby
          have hcap : k ≤ c1 := by
            rcases own_slice S.o1 with ⟨_, _, he, h1, _⟩
            injection he with _ _ he
            omega
          have hwr : Rs wr (some ⟨wb, wo, none⟩) (us words) := (Rd.below hwd hbr).more hbr.size
          have hw1 := Rs.part hwr 0 192
          rw [List.drop_zero, Nat.add_zero] at hw1
          have htl : (words.take 192).length = 192 := by have := HLN.out; simp; omega
          have C := hide (fun (W : World) (h : Below wr.heap.size wr W) => aim_any (some ⟨wb, wo, none⟩) A1 A2 192 c1 c2 192 k k (words.take 192) (byV b (words.take 192) (rowsM words xs) ys) (rowsM words xs) W (Rs.call hw1 h) ((hrd.below h).more h.size) (Rs.call hby h) htl (by unfold rowsM; rw [len_keyRows, HX.out]) (by rw [len_byV]; unfold rowsM; rw [len_keyRows, HX.out]) (by omega) hl2 hl2 hcap
            (fun j hj => by unfold rowsM; unfold rowsM at hj; rw [get_keyRows (mrow words) xs j (by rw [len_keyRows] at hj; exact hj), len_mrow]; omega) (take_lt words HW.out 192) (byV_lt _ _ _ _ (take_lt words HW.out 192) HYW.out))
          have q0 := B0.cell
          have q2 := B2.cell
          have q3 := B3.cell
          have hnn : (n : Int) = 320 := by have := HN2.out; omega
          have hcc : (320 : Int) ≤ (c : Int) := by omega
          have hcd : (192 : Int) ≤ (c : Int) := by omega
          have hce : 192 ≤ c := by omega
          have hcf : ¬ c = 192 := by omega
          have hq := Below.refl wr.heap.size wr
          clear hrd hby hw1 hrr hbb S hall HT HR B0 B1 B2 B3
          go_wp2_with fail
          go_region_held3 (fun v => v.cell? ⟨w.heap.size, 0, none⟩ = some (.slice (some ⟨wb, wo, none⟩) n c) ∧ v.cell? ⟨w.heap.size + 2, 0, none⟩ = some (.slice A1 k c1) ∧ v.cell? ⟨w.heap.size + 3, 0, none⟩ = some (.slice A2 k c2)) (exact ⟨q0, q2, q3⟩) ((go_at_call 9; (with_reducible refine (C.out _ hq.drew).mono ?_); rintro e w7 ⟨A7, n7, c7, rfl, hok7, herr7, hb7⟩; replace hq : Below wr.heap.size wr w7 := below_call hq.drew (Nat.le_refl _) hb7; replace q0 := cell_call hq q0; replace q2 := cell_call hq q2; replace q3 := cell_call hq q3))
          replace hbr : Below w.heap.size w w7 := below_call hbr (Nat.le_refl _) hq
          rw [HR2.out] at hok7 herr7 ⊢
          clear q2 q3
          by_cases hz : mshE n b xs ys = 0
          · obtain ⟨e7, hs7⟩ := hok7 hz
            subst e7
            rw [hz]
            have HZ0 := hide hz
            clear hz hok7 herr7
            have hwr7 := Rs.part (Rs.call hwr hq) 192 128
            have hd : (words.drop 192).take 128 = words.drop 192 := List.take_of_length_le (by have := HLN.out; simp; omega)
            rw [hd] at hwr7
            have HOL := hide (show (aimV (words.take 192) (rowsM words xs) (byV b (words.take 192) (rowsM words xs) ys)).length = 192 from by rw [len_aim]; exact htl)
            have hout : aimV (words.take 192) (rowsM words xs) (byV b (words.take 192) (rowsM words xs) ys) ++ words.drop 192 = mshV words b xs ys := rfl
            have C8 := hide (fun (t : TypeId) (cq : Nat) => concat_any A7 (some ⟨wb, wo + 192, none⟩) w7.heap.size c7 cq 192 128 2 (aimV (words.take 192) (rowsM words xs) (byV b (words.take 192) (rowsM words xs) ys)) (words.drop 192) (w7.alloc (.cells #[.slice A7 192 c7, .slice (some ⟨wb, wo + 192, none⟩) 128 cq] t)) (cells2 _ _ _ _).1 (cells2 _ _ _ _).2 (Rs.alloc hs7 _) (Rs.alloc hwr7 _) HOL.out (by have := HLN.out; simp; omega) (by omega) (by omega) (by omega))
            rw [hout] at C8
            have hn320 := HN2.out
            subst hn320
            clear hb7 hwr hwr7 hs7 hd hout
            go_wp2_with fail
            refine (C8.out _ _).mono ?_
            rintro e w9 ⟨A9, c9, rfl, hcap9, hs9, hb9⟩
            have hb99 : Below w.heap.size w w9 := below_call (hbr.alloc hbr.size _) (Nat.le_refl _) hb9
            go_wp2_with fail
            go_ret2
            exact RetShC.ok (A' := A9) (n' := 192 + 128) (c' := c9) HZ0.out rfl hs9 hcap9 hb99
          · have e7 := herr7 hz
            subst e7
            have t5 : (mshE n b xs ys != 0) = true := by rw [bne_iff_ne]; exact hz
            have HZ1 := hide hz
            clear hz hok7 herr7 HR2 HS
            generalize hze : mshE n b xs ys = z at *
            go_wp2_with fail
            go_ret2
            exact RetShC.err z rfl HZ1.out hbr
  · have hE := hide (show mshE n b xs ys = chk n 320 b from by unfold mshE; rw [if_neg hc0])
    have t5 : (chk n 320 b != 0) = true := by rw [bne_iff_ne]; exact hc0
    have HC0 := hide hc0
    clear hc0
    generalize chk n 320 b = z at *
    go_enter Try.func18, Try.ntmps18
    go_wp2_with fail
    rw [← hW2]
    clear hW2
    refine (C1.out _).mono ?_
    rintro e w1 ⟨rfl, rfl⟩
    go_wp2_with fail
    go_ret2
    exact RetShC.err z hE.out HC0.out hbW
end Go.Proofs.Ytpkekdgpkalceaa
