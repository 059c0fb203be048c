/-
  Walk of twist.Shift. Conditions: slices no longer than the form lets them be, and no longer than their capacity.
-/
import Derived.Test.YtpkekdgpkalceaaShfT
namespace Go.Proofs.Ytpkekdgpkalceaa
open Go.RowKit
set_option linter.unusedVariables false

theorem Rs.part {w : World} {b o : Nat} {xs : List Nat} (h : Rs w (some ⟨b, o, none⟩) (us xs)) (k m : Nat) : Rs w (some ⟨b, o + k, none⟩) (us ((xs.drop k).take m)) := by
  rw [← us_cut]
  exact Rd.cut h k m
theorem cells2 (w : World) (v v' : Value) (t : TypeId) : (w.alloc (.cells #[v, v'] t)).cell? ⟨w.heap.size, 0, none⟩ = some v ∧ (w.alloc (.cells #[v, v'] t)).cell? ⟨w.heap.size, 1, none⟩ = some v' := by
  constructor <;> simp [go_sem]

/-- What a shift hands back, no longer than its capacity. -/
def RetShC (w : World) (n : Nat) (z : Int) (out : List Nat) (e : Ending) (w' : World) : Prop :=
  ∃ A' n' c', e = .returned (.tuple #[.slice A' n' c', .int .i64 z]) ∧ (z = 0 → n' = n ∧ Rs w' A' (us out)) ∧ (z ≠ 0 → n' = 0) ∧ n' ≤ c' ∧ Below w.heap.size w w'
theorem RetShC.err {w w' : World} {n : Nat} {z : Int} {out : List Nat} (y : Int) (hz : z = y) (h0 : y ≠ 0) (hb : Below w.heap.size w w') : RetShC w n z out (.returned (.tuple #[.slice none 0 0, .int .i64 y])) w' := by
  subst hz
  exact ⟨none, 0, 0, rfl, fun h => absurd h h0, fun _ => rfl, Nat.le_refl _, hb⟩
theorem RetShC.ok {w w' : World} {n n' : Nat} {z : Int} {out : List Nat} {A' : Option Addr} {c' : Nat} (hz : z = 0) (hn : n' = n) (hs : Rs w' A' (us out)) (hc : n' ≤ c') (hb : Below w.heap.size w w') : RetShC w n z out (.returned (.tuple #[.slice A' n' c', .int .i64 0])) w' := by
  subst hz
  exact ⟨A', n', c', rfl, fun _ => ⟨hn, hs⟩, fun h => absurd rfl h, hc, hb⟩

set_option maxHeartbeats 8000000 in
theorem tshift_any (A Ax Ay : Option Addr) (c cx cy n nx ny : Nat) (words xs ys : List Nat) (b : Int) (w : World) (hwd : Rs w A (us words)) (hx : Rs w Ax (us xs)) (hy : Rs w Ay (us ys))
    (hn : words.length = n) (hnx : xs.length = nx) (hny : ys.length = ny) (hl : n ≤ 17592186043904) (hl2 : nx ≤ 17592186043904) (hl3 : ny ≤ 17592186043904) (hnc : n ≤ c)
    (hw : ∀ x ∈ words, x < 18446744073709551616) (hxw : ∀ x ∈ xs, x < 18446744073709551616) (hyw : ∀ x ∈ ys, x < 18446744073709551616) :
    Calls Try.prog 21 #[.slice A n c, .int .i64 b, .slice Ax nx cx, .slice Ay ny cy] w (RetShC w n (tshE n b xs ys) (tshV words b xs ys)) := by
  have HN := hide hn
  have HX := hide hnx
  have HY := hide hny
  have HW := hide hw
  have HXW := hide hxw
  have HYW := hide hyw
  have hb0 := Below.refl w.heap.size w
  have C1 := hide (fun W => check_twist A n c b W)
  clear hn hnx hny hw hxw hyw
  obtain ⟨W1, hW1⟩ : ∃ W1, W1 = w.alloc (.cells #[.slice A n c] 22) := ⟨_, rfl⟩
  have box1 : W1.cell? ⟨w.heap.size, 0, none⟩ = some (.slice A n c) := by rw [hW1]; simp [go_sem]
  have hbW : Below w.heap.size w W1 := by rw [hW1]; exact (Below.refl _ _).alloc (Nat.le_refl _) _
  by_cases hc0 : chk n 240 b = 0
  · obtain ⟨hb1, hb2, hn240⟩ := chk_zero hc0
    have HS := hide (show tshE n b xs ys = targE b xs ys from by unfold tshE; rw [if_pos hc0])
    have HN2 := hide (show n = 240 by omega)
    have HC0 := hide hc0
    rw [hc0] at C1
    have hc240 : 240 ≤ c := by omega
    have hln : words.length = 240 := by rw [HN.out, HN2.out]
    obtain ⟨wb, wo, rfl, hwb⟩ := hwd.addr (by rw [len_us]; omega)
    have HLN := hide hln
    clear hc0 hn240 hln
    go_enter Try.func21, Try.ntmps21
    go_wp2_with fail
    rw [← hW1]
    clear hW1
    refine (C1.out _).mono ?_
    rintro e w1 ⟨rfl, rfl⟩
    go_wp2_with fail
    go_loopw [12, 26] (fun v i wr => ∃ (k : Nat) (A1 : Option Addr) (c1 : Nat), k ≤ nx ∧ i = .int .i64 k ∧ v = .slice A1 k c1 ∧ Below w.heap.size w wr ∧ wr.cell? ⟨w.heap.size, 0, none⟩ = some (.slice (some ⟨wb, wo, none⟩) n c) ∧ wr.ownsRow (w.heap.size + 1) 30 1 (.slice A1 k c1) k (us ((keysT words xs).take k))) (fun _ i _ => nx - (intOf i).toNat)
    case atStart => exact ⟨0, none, 0, Nat.zero_le _, rfl, rfl, hbW, box1, World.ownsRow_nil _ _ _ _⟩
    case round =>
      clear box1 hbW
      obtain ⟨k, A1, c1, hk, rfl, rfl, hbr, hbox, hown⟩ := hrel
      by_cases hlt : k < nx
      · obtain ⟨b3, o3, rfl, hbl3, hc3⟩ := (Rd.below hx hbr).u2 (k := k) (by rw [HX.out]; exact hlt)
        have hx1 := getD_lt xs HXW.out k
        have hgl : w.heap.size < wr.heap.size := World.block_lt_of_cell? _ _ hbox
        have C2 := hide (turned_any (some ⟨wb, wo, none⟩) c n w.heap.size words (xs.getD k 0) wr hbox ((Rd.below hwd hbr).more hbr.size) HN.out HN2.out hnc HW.out hx1)
        have hnext : us ((keysT words xs).take (k + 1)) = us ((keysT words xs).take k) ++ [.int .u64 ((keyT words (xs.getD k 0) : Nat) : Int)] := by
          have hkl : k < (keysT words xs).length := by rw [len_keysT, HX.out]; exact hlt
          rw [List.take_succ_eq_append_getElem hkl, us_append, getD_get, get_keysT words xs k (by rw [HX.out]; exact hlt)]
          rfl
        have HNX := hide hnext
        clear hnext
        generalize keyT words (xs.getD k 0) = kt at *
        generalize xs.getD k 0 = x at *
        go_wp2_with fail
        refine C2.out.mono ?_
        rintro e w5 ⟨rfl, hb5⟩
        replace hown := own_carry hown hb5
        replace hbox := cell_call hb5 hbox
        replace hbr : Below w.heap.size w w5 := below_call hbr (Nat.le_refl _) hb5
        have hsz5 : w.heap.size + 1 ≤ w5.heap.size := World.block_lt_of_cell? _ _ hbox
        clear hb5 hc3 hgl
        go_wp2_with (at_builtin; refine wp_append1 rfl _ _ _ rfl (w.heap.size + 1) 30 _ (.int .u64 0) 8 Try.underlying22 Try.infoU64 rfl _ _ _ _ rfl hown _ rfl rfl (by omega) (by omega) hsz5 ?_)
        intro A5 c5 w6 hown6 hb6
        replace hbox := (hb6.cell (p := ⟨w.heap.size, 0, none⟩) (Nat.lt_succ_self _)).trans hbox
        replace hbr : Below w.heap.size w w6 := hbr.trans (hb6.mono (Nat.le_succ _))
        rw [← HNX.out] at hown6
        clear hb6 hown hsz5
        go_wp2_with fail
        go_roundw
        case rel => exact ⟨k + 1, A5, c5, by omega, by go_num, rfl, hbr, hbox, hown6⟩
        case measure => simp [intOf]; omega
      · have hkm : k = nx := by omega
        subst hkm
        have hks := Rs.of_own hown
        rw [List.take_of_length_le (by rw [len_keysT, HX.out]; omega)] at hks
        have hwr : Rs wr (some ⟨wb, wo, none⟩) (us words) := (Rd.below hwd hbr).more hbr.size
        have hw1 := Rs.part hwr 0 128
        rw [List.drop_zero, Nat.add_zero] at hw1
        have C6 := hide (shift_any (some ⟨wb, wo, none⟩) A1 Ay 128 c1 cy 128 k ny (words.take 128) (keysT words xs) ys b wr hw1 hks ((Rd.below hy hbr).more hbr.size) (by have := HLN.out; simp; omega) (by rw [len_keysT]; exact HX.out) HY.out (by omega) hl2 hl3 (take_lt words HW.out 128)
          (fun x hx => by obtain ⟨y, hy, rfl⟩ := List.mem_map.1 hx; exact keyT_lt words y (HXW.out y hy)) HYW.out)
        have HZ := hide (show shiftE 128 b (keysT words xs) ys = tshE n b xs ys from by
          have hk : chk ((128 : Nat) : Int) 128 b = 0 := by unfold chk; rw [if_neg (by omega)]; rfl
          rw [HS.out]; unfold shiftE; rw [if_pos hk, targ_keys])
        have hnn : (n : Int) = 240 := by have := HN2.out; omega
        have hcc : (240 : Int) ≤ (c : Int) := by omega
        have HOL := hide (show (shiftV (words.take 128) b (keysT words xs) ys).length = 128 from by rw [len_shiftV]; have := HLN.out; simp; omega)
        clear hks hw1 hown
        rw [HZ.out] at C6
        go_wp2_with fail
        refine C6.out.mono ?_
        intro e w7 hq
        obtain ⟨A7, n7, c7, rfl, hok7, herr7, hb7⟩ := hq
        replace hbox := cell_call hb7 hbox
        replace hbr : Below w.heap.size w w7 := below_call hbr (Nat.le_refl _) hb7
        by_cases hz : tshE n b xs ys = 0
        · obtain ⟨e7, hs7⟩ := hok7 hz
          subst e7
          rw [hz]
          have HZ0 := hide hz
          clear hz hok7 herr7 C6
          have hwr7 := Rs.part (Rs.call hwr hb7) 128 112
          have hd : (words.drop 128).take 112 = words.drop 128 := List.take_of_length_le (by have := HLN.out; simp; omega)
          rw [hd] at hwr7
          have hout : shiftV (words.take 128) b (keysT words xs) ys ++ words.drop 128 = tshV words b xs ys := rfl
          have C8 := hide (fun (t : TypeId) (cq : Nat) => concat_any A7 (some ⟨wb, wo + 128, none⟩) w7.heap.size c7 cq 128 112 2 (shiftV (words.take 128) b (keysT words xs) ys) (words.drop 128) (w7.alloc (.cells #[.slice A7 128 c7, .slice (some ⟨wb, wo + 128, none⟩) 112 cq] t)) (cells2 _ _ _ _).1 (cells2 _ _ _ _).2 (Rs.alloc hs7 _) (Rs.alloc hwr7 _) HOL.out (by have := HLN.out; simp; omega) (by omega) (by omega) (by omega))
          rw [hout] at C8
          have hn240 := HN2.out
          subst hn240
          clear hb7 hwr hwr7 hs7 hd hout
          go_wp2_with fail
          refine (C8.out _ _).mono ?_
          rintro e w9 ⟨A9, c9, rfl, hcap9, hs9, hb9⟩
          have hb99 : Below w.heap.size w w9 := below_call (hbr.alloc hbr.size _) (Nat.le_refl _) hb9
          go_wp2_with fail
          go_ret2
          exact RetShC.ok (A' := A9) (n' := 128 + 112) (c' := c9) HZ0.out rfl hs9 hcap9 hb99
        · have e7 := herr7 hz
          subst e7
          have t5 : (tshE n b xs ys != 0) = true := by rw [bne_iff_ne]; exact hz
          have HZ1 := hide hz
          clear hz hok7 herr7 C6 HZ HS
          generalize hze : tshE n b xs ys = z at *
          go_wp2_with fail
          go_ret2
          exact RetShC.err z rfl HZ1.out hbr
  · have hE := hide (show tshE n b xs ys = chk n 240 b from by unfold tshE; rw [if_neg hc0])
    have t5 : (chk n 240 b != 0) = true := by rw [bne_iff_ne]; exact hc0
    have HC0 := hide hc0
    clear hc0
    generalize chk n 240 b = z at *
    go_enter Try.func21, Try.ntmps21
    go_wp2_with fail
    rw [← hW1]
    clear hW1
    refine (C1.out _).mono ?_
    rintro e w1 ⟨rfl, rfl⟩
    go_wp2_with fail
    go_ret2
    exact RetShC.err z hE.out HC0.out hbW
end Go.Proofs.Ytpkekdgpkalceaa
