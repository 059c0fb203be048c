/-
  Walk of tabs.only: entries of which a row has an odd number, and others have even ones. Conditions: slices no longer than the form lets them be.
-/
import Derived.Test.YtpkekdgpkalceaaAimB
import Derived.ChangeKeysEq
namespace Go.Proofs.Ytpkekdgpkalceaa
open Go.RowKit
set_option linter.unusedVariables false

theorem info_bool : ∃ i, Try.prog.info? 4 = some i := by
  have h : (Try.prog.info? 4).isSome = true := by kernel_rfl
  exact Option.isSome_iff_exists.1 h
theorem cells_bool : Try.prog.cellsOf 4 = 1 := by kernel_rfl
theorem eq3 (a0 a1 a2 b0 b1 b2 : Bool) (w : World) : (Op.equalIn 10000 67 (.agg #[.bool a0, .bool a1, .bool a2]) (.agg #[.bool b0, .bool b1, .bool b2])).run Try.prog w = .ok ((a0 == b0) && ((a1 == b1) && (a2 == b2))) w := by
  obtain ⟨i, hi⟩ := info_bool
  rw [run_equalIn_array w 9999 _ _ Try.underlying67 hi, cells_bool]
  simp only [List.range_succ, List.range_zero, List.nil_append, List.cons_append, Op.eqItems, Sem.run_bind]
  cases h0 : (a0 == b0) <;> cases h1 : (a1 == b1) <;> cases h2 : (a2 == b2) <;> simp [part, go_sem, Try.isAgg4, Try.underlying4, h0, h1, h2]
attribute [local go_sem] eq3

theorem RetI.one {W w' : World} {base g : Nat} {xs : List Int} {z : Int} {t : TypeId} (hx : xs = [z]) (hb : Below base W w') (hB : base = W.heap.size) (hg : g = w'.heap.size) : RetI W xs (.returned (.slice (some ⟨g, 0, none⟩) 1 1)) (w'.alloc (.cells #[.int .i64 z] t)) := by
  subst hx
  subst hB
  subst hg
  refine ⟨_, _, rfl, ?_, hb.alloc hb.size _, fun b o hA => by injection hA with hA; injection hA with hA; rw [← hA]; exact hb.size⟩
  intro _
  refine ⟨w'.heap.size, 0, rfl, by simp, fun j u hu => ?_⟩
  match j, hu with
  | 0, hu => simp [is] at hu; subst hu; simp [go_sem]
theorem keep0 {w : World} {p : Addr} {x : Value} (h : w.cell? p = some x) (ob : Obj) : (w.alloc ob).cell? p = some x := cell_alloc ob h
theorem keep1 {w : World} {p : Addr} {x : Value} (h : w.cell? p = some x) (ob : Obj) (k : Nat) (v : Value) : ((w.alloc ob).setCell ⟨w.heap.size, k, none⟩ v).cell? p = some x := by
  rw [World.cell?_setCell_other _ _ _ _ (fun e => by have := World.block_lt_of_cell? _ _ h; rw [← e] at this; exact Nat.lt_irrefl _ this)]
  exact keep0 h ob
theorem keep2 {w : World} {p : Addr} {x : Value} (h : w.cell? p = some x) (ob : Obj) (k : Nat) (v : Value) (k' : Nat) (v' : Value) : (((w.alloc ob).setCell ⟨w.heap.size, k, none⟩ v).setCell ⟨w.heap.size, k', none⟩ v').cell? p = some x := by
  rw [World.cell?_setCell_other _ _ _ _ (fun e => by have := World.block_lt_of_cell? _ _ h; rw [← e] at this; exact Nat.lt_irrefl _ this)]
  exact keep1 h ob k v
theorem only_hit (row : List Int) (others : List (List Int)) (k : Nat) (hk : k < row.length) (hall : ∀ j, j < k → lone row others j = false) (h : lone row others k = true) (c : Nat) (hc : row[k] = (c : Int)) : ns (onlyV row others) = [16 * (k : Int) + (c : Int)] := by
  have : fst (lone row others) row.length 0 = k := fst_at _ _ 0 k (by omega) (by omega) (fun j _ hj => hall j hj) h
  unfold onlyV
  rw [this, if_pos hk]
  simp [ns, spread_val row row k hk c hc]
theorem only_miss (row : List Int) (others : List (List Int)) (hall : ∀ j, j < row.length → lone row others j = false) : onlyV row others = spreadV row others := by
  have : fst (lone row others) row.length 0 = row.length := by rw [fst_no _ _ 0 (fun j _ hj => hall j (by omega))]; omega
  unfold onlyV
  rw [this, if_neg (by omega)]
theorem RetI.go {W W1 w' : World} {xs : List Int} {e : Ending} (hb : Below W.heap.size W W1) (h : RetI W1 xs e w') : RetI W xs e w' := by
  obtain ⟨A, c, rfl, h1, h2, h3⟩ := h
  exact ⟨A, c, rfl, h1, below_call hb (Nat.le_refl _) h2, fun b o hA => Nat.le_trans hb.size (h3 b o hA)⟩

set_option maxHeartbeats 1600000 in
theorem only0 (A A' : Option Addr) (c c' B : Nat) (row : List Int) (w : World) (hr : Rd w B A (is row)) (ho : RdR w B A' []) (hB : B ≤ w.heap.size) (hl : row.length ≤ 17592186043904) (hp : 1 ≤ row.length) (hcap : 0 ≤ c') (hg : row.any badc = false) (nr : Nat) (hnr : row.length = nr) :
    Calls Try.prog 31 #[.slice A nr c, .slice A' 0 c'] w (RetI w (ns (onlyV row []))) := by
  subst hnr
  have hlo : ∀ k (h : k < row.length), 0 ≤ row[k] ∧ row[k] < 16 := fun k h => any_lo row hg k h
  have HL := hide hlo
  have hnb := Below.refl w.heap.size w
  clear hlo hg
  go_enter Try.func31, Try.ntmps31
  go_wp2_with fail
  go_step3
  go_wp2_with fail
  go_step3
  go_wp2_with fail
  have F0 : (w.alloc (.cells #[.bool false, .bool false, .bool false] 67)).cell? ⟨w.heap.size, 0, none⟩ = some (.bool false) := by simp [go_sem]
  have F1 : (w.alloc (.cells #[.bool false, .bool false, .bool false] 67)).cell? ⟨w.heap.size, 1, none⟩ = some (.bool false) := by simp [go_sem]
  have F2 : (w.alloc (.cells #[.bool false, .bool false, .bool false] 67)).cell? ⟨w.heap.size, 2, none⟩ = some (.bool false) := by simp [go_sem]
  have hgl : w.heap.size < (w.alloc (.cells #[.bool false, .bool false, .bool false] 67)).heap.size := by simp
  have hbW : Below w.heap.size w (w.alloc (.cells #[.bool false, .bool false, .bool false] 67)) := (Below.refl _ _).alloc (Nat.le_refl _) _
  generalize w.alloc (.cells #[.bool false, .bool false, .bool false] 67) = W at *
  have hrW := hr.call hB hbW
  have hBW : B ≤ W.heap.size := by omega
  go_loopw [13] (fun i wr => ∃ k : Nat, k ≤ row.length ∧ i = .int .i64 k ∧ Below W.heap.size W wr ∧ Hid (∀ j, j < k → lone row [] j = false)) (fun i _ => row.length - (intOf i).toNat)
  case atStart => exact ⟨0, Nat.zero_le _, rfl, Below.refl _ _, hide fun j h => absurd h (by omega)⟩
  case round =>
    obtain ⟨k, hk, rfl, hbr, hall⟩ := hrel
    have hsz := hbr.size
    have hBr : B ≤ wr.heap.size := Nat.le_trans hBW hbr.size
    by_cases hlt : k < row.length
    · obtain ⟨b2, p2, rfl, hb2, hc2⟩ := (hrW.call hBW hbr).i hlt
      have f0 := cell_call hbr F0
      have f1 := cell_call hbr F1
      have f2 := cell_call hbr F2
      have hgr : w.heap.size < wr.heap.size := Nat.lt_of_lt_of_le hgl hbr.size
      have h16 := HL.out k hlt
      obtain ⟨c, hcc⟩ := Int.eq_ofNat_of_zero_le h16.1
      have hc16 : c < 16 := by omega
      have HH := hide (fun hx => only_hit row [] k hlt hall.out hx c hcc)
      have HLn := hide (show lone row [] k = (true) from by simp [lone, List.getD, hlt, hcc])
      rw [hcc] at hc2
      have kf0 := keep0 f0
      have kf1 := keep0 f1
      have kf2 := keep0 f2
      clear h16 hcc HL
      go_wp2
      refine wp_loop_rounds 1 ?_
      rw [rounds_succ]
      go_wp2
      have hyes := HLn.out
      have hv := HH.out hyes
      go_ret
      refine RetI.go hbW (RetI.go hbr ?_)
      refine RetI.one (base := wr.heap.size) (g := wr.heap.size + 1) hv ?_ rfl (by simp)
      (repeat (first | exact Below.refl _ _ | assumption | (refine Below.alloc ?_ (by first | omega | (simp; done) | (simp; omega)) _) | (refine Below.setCell ?_ (by first | omega | (simp; done) | (simp; omega)) _) | refine Below.drew ?_ | refine below_drewN ?_ _))
    · have hkb : k = row.length := by omega
      exfalso
      have := hall.out 0 (by omega)
      simp [lone] at this
set_option maxHeartbeats 1600000 in
theorem only1 (A A' : Option Addr) (c c' B : Nat) (row o0 : List Int) (w : World) (hr : Rd w B A (is row)) (ho : RdR w B A' [o0]) (hB : B ≤ w.heap.size) (hl : row.length ≤ 17592186043904) (hp : 1 ≤ row.length) (hcap : 1 ≤ c') (h0 : o0.length = row.length) (hd0 : o0 ≠ row) (hg : row.any badc = false) (nr : Nat) (hnr : row.length = nr) :
    Calls Try.prog 31 #[.slice A nr c, .slice A' 1 c'] w (RetI w (ns (onlyV row [o0]))) := by
  subst hnr
  have hlo : ∀ k (h : k < row.length), 0 ≤ row[k] ∧ row[k] < 16 := fun k h => any_lo row hg k h
  have HL := hide hlo
  have HD := hide (differ_hit row o0 h0.symm hd0.symm row.length rfl)
  have hnb := Below.refl w.heap.size w
  clear hlo hg hd0
  obtain ⟨b, o, rfl, hb, hc⟩ := ho (by simp)
  obtain ⟨A0, c0, hc0, hr0⟩ := hc 0 (by simp)
  simp only [List.getD_cons_zero, Nat.add_zero] at hc0 hr0
  rw [h0] at hc0
  clear hc ho
  go_enter Try.func31, Try.ntmps31
  go_wp2_with fail
  go_step3
  go_wp2_with fail
  go_step3
  go_wp2_with fail
  have F0 : (w.alloc (.cells #[.bool false, .bool false, .bool false] 67)).cell? ⟨w.heap.size, 0, none⟩ = some (.bool false) := by simp [go_sem]
  have F1 : (w.alloc (.cells #[.bool false, .bool false, .bool false] 67)).cell? ⟨w.heap.size, 1, none⟩ = some (.bool false) := by simp [go_sem]
  have F2 : (w.alloc (.cells #[.bool false, .bool false, .bool false] 67)).cell? ⟨w.heap.size, 2, none⟩ = some (.bool false) := by simp [go_sem]
  have hgl : w.heap.size < (w.alloc (.cells #[.bool false, .bool false, .bool false] 67)).heap.size := by simp
  have hbW : Below w.heap.size w (w.alloc (.cells #[.bool false, .bool false, .bool false] 67)) := (Below.refl _ _).alloc (Nat.le_refl _) _
  generalize w.alloc (.cells #[.bool false, .bool false, .bool false] 67) = W at *
  have hrW := hr.call hB hbW
  have hr0W := hr0.call hB hbW
  have hc0W := cell_call hbW hc0
  have hBW : B ≤ W.heap.size := by omega
  go_loopw [13] (fun i wr => ∃ k : Nat, k ≤ row.length ∧ i = .int .i64 k ∧ Below W.heap.size W wr ∧ Hid (∀ j, j < k → lone row [o0] j = false)) (fun i _ => row.length - (intOf i).toNat)
  case atStart => exact ⟨0, Nat.zero_le _, rfl, Below.refl _ _, hide fun j h => absurd h (by omega)⟩
  case round =>
    obtain ⟨k, hk, rfl, hbr, hall⟩ := hrel
    have hsz := hbr.size
    have hBr : B ≤ wr.heap.size := Nat.le_trans hBW hbr.size
    by_cases hlt : k < row.length
    · obtain ⟨b2, p2, rfl, hb2, hc2⟩ := (hrW.call hBW hbr).i hlt
      obtain ⟨b5, p5, rfl, hb5, hc5⟩ := (hr0W.call hBW hbr).i (k := k) (by omega)
      have hc0r := cell_call hbr hc0W
      have f0 := cell_call hbr F0
      have f1 := cell_call hbr F1
      have f2 := cell_call hbr F2
      have hgr : w.heap.size < wr.heap.size := Nat.lt_of_lt_of_le hgl hbr.size
      have h16 := HL.out k hlt
      obtain ⟨c, hcc⟩ := Int.eq_ofNat_of_zero_le h16.1
      have hc16 : c < 16 := by omega
      have HH := hide (fun hx => only_hit row [o0] k hlt hall.out hx c hcc)
      have HLn := hide (show lone row [o0] k = (!(o0[k]'(by omega) == (c : Int))) from by simp [lone, List.getD, hlt, hcc, show k < o0.length by omega])
      rw [hcc] at hc2
      generalize o0[k]'(by omega) = d0 at *
      have kc00 := keep0 hc0r
      have kd00 := keep0 hc5
      have kf0 := keep1 f0
      have kf1 := keep1 f1
      have kf2 := keep1 f2
      clear h16 hcc HL
      go_wp2
      refine wp_loop_rounds 2 ?_
      rw [rounds_succ]
      go_wp2
      rw [rounds_succ]
      cases hm0 : (d0 == (c : Int))
      · skip
        go_wp2
        have hyes := HLn.out
        rw [hm0] at hyes
        have hv := HH.out hyes
        go_ret
        refine RetI.go hbW (RetI.go hbr ?_)
        refine RetI.one (base := wr.heap.size) (g := wr.heap.size + 1) hv ?_ rfl (by simp)
        (repeat (first | exact Below.refl _ _ | assumption | (refine Below.alloc ?_ (by first | omega | (simp; done) | (simp; omega)) _) | (refine Below.setCell ?_ (by first | omega | (simp; done) | (simp; omega)) _) | refine Below.drew ?_ | refine below_drewN ?_ _))
      · skip
        go_wp2
        have hno := HLn.out
        rw [hm0] at hno
        go_roundw
        case rel => exact ⟨k + 1, by omega, by go_num, (by (repeat (first | exact Below.refl _ _ | assumption | (refine Below.alloc ?_ (by first | omega | (simp; done) | (simp; omega)) _) | (refine Below.setCell ?_ (by first | omega | (simp; done) | (simp; omega)) _) | refine Below.drew ?_ | refine below_drewN ?_ _))), hide fun j hj => by
                      by_cases e : j = k
                      · subst e; exact hno
                      · exact hall.out j (by omega)⟩
        case measure => simp [intOf]; omega
    · have hkb : k = row.length := by omega
      exfalso
      have h1 := HD.out
      generalize fst (differ row o0) row.length 0 = f at h1
      have h2 := hall.out f (by omega)
      simp [lone] at h2
      exact h1.2 (by simpa using h2.symm)
set_option maxHeartbeats 1600000 in
theorem only2 (A A' : Option Addr) (c c' B : Nat) (row o0 o1 : List Int) (w : World) (hr : Rd w B A (is row)) (ho : RdR w B A' [o0, o1]) (hB : B ≤ w.heap.size) (hl : row.length ≤ 17592186043904) (hp : 1 ≤ row.length) (hcap : 2 ≤ c') (h0 : o0.length = row.length) (hd0 : o0 ≠ row) (h1 : o1.length = row.length) (hd1 : row ≠ o1) (hg1 : o1.any badc = false) (hg : row.any badc = false) (nr : Nat) (hnr : row.length = nr) :
    Calls Try.prog 31 #[.slice A nr c, .slice A' 2 c'] w (RetI w (ns (onlyV row [o0, o1]))) := by
  subst hnr
  have hlo : ∀ k (h : k < row.length), 0 ≤ row[k] ∧ row[k] < 16 := fun k h => any_lo row hg k h
  have HL := hide hlo
  have C := hide (fun W (hb : Below B w W) (hs : B ≤ W.heap.size) => spread_any A A' c c' B row o0 o1 W (hr.below hb) (ho.below hb) hs hl h0 h1 hg hg1 hd0 hd1 row.length rfl)
  have hnb := Below.refl w.heap.size w
  clear hlo hg hg1 hd0 hd1
  obtain ⟨b, o, rfl, hb, hc⟩ := ho (by simp)
  obtain ⟨A0, c0, hc0, hr0⟩ := hc 0 (by simp)
  obtain ⟨A1, c1, hc1, hr1⟩ := hc 1 (by simp)
  simp only [List.getD_cons_zero, List.getD_cons_succ, Nat.add_zero] at hc0 hr0 hc1 hr1
  rw [h0] at hc0
  rw [h1] at hc1
  clear hc ho
  go_enter Try.func31, Try.ntmps31
  go_wp2_with fail
  go_step3
  go_wp2_with fail
  go_step3
  go_wp2_with fail
  have F0 : (w.alloc (.cells #[.bool false, .bool false, .bool false] 67)).cell? ⟨w.heap.size, 0, none⟩ = some (.bool false) := by simp [go_sem]
  have F1 : (w.alloc (.cells #[.bool false, .bool false, .bool false] 67)).cell? ⟨w.heap.size, 1, none⟩ = some (.bool false) := by simp [go_sem]
  have F2 : (w.alloc (.cells #[.bool false, .bool false, .bool false] 67)).cell? ⟨w.heap.size, 2, none⟩ = some (.bool false) := by simp [go_sem]
  have hgl : w.heap.size < (w.alloc (.cells #[.bool false, .bool false, .bool false] 67)).heap.size := by simp
  have hbW : Below w.heap.size w (w.alloc (.cells #[.bool false, .bool false, .bool false] 67)) := (Below.refl _ _).alloc (Nat.le_refl _) _
  generalize w.alloc (.cells #[.bool false, .bool false, .bool false] 67) = W at *
  have hrW := hr.call hB hbW
  have hr0W := hr0.call hB hbW
  have hc0W := cell_call hbW hc0
  have hr1W := hr1.call hB hbW
  have hc1W := cell_call hbW hc1
  have hBW : B ≤ W.heap.size := by omega
  go_loopw [13] (fun i wr => ∃ k : Nat, k ≤ row.length ∧ i = .int .i64 k ∧ Below W.heap.size W wr ∧ Hid (∀ j, j < k → lone row [o0, o1] j = false)) (fun i _ => row.length - (intOf i).toNat)
  case atStart => exact ⟨0, Nat.zero_le _, rfl, Below.refl _ _, hide fun j h => absurd h (by omega)⟩
  case round =>
    obtain ⟨k, hk, rfl, hbr, hall⟩ := hrel
    have hsz := hbr.size
    have hBr : B ≤ wr.heap.size := Nat.le_trans hBW hbr.size
    by_cases hlt : k < row.length
    · obtain ⟨b2, p2, rfl, hb2, hc2⟩ := (hrW.call hBW hbr).i hlt
      obtain ⟨b5, p5, rfl, hb5, hc5⟩ := (hr0W.call hBW hbr).i (k := k) (by omega)
      have hc0r := cell_call hbr hc0W
      obtain ⟨b6, p6, rfl, hb6, hc6⟩ := (hr1W.call hBW hbr).i (k := k) (by omega)
      have hc1r := cell_call hbr hc1W
      have f0 := cell_call hbr F0
      have f1 := cell_call hbr F1
      have f2 := cell_call hbr F2
      have hgr : w.heap.size < wr.heap.size := Nat.lt_of_lt_of_le hgl hbr.size
      have h16 := HL.out k hlt
      obtain ⟨c, hcc⟩ := Int.eq_ofNat_of_zero_le h16.1
      have hc16 : c < 16 := by omega
      have HH := hide (fun hx => only_hit row [o0, o1] k hlt hall.out hx c hcc)
      have HLn := hide (show lone row [o0, o1] k = (!(o0[k]'(by omega) == (c : Int)) && !(o1[k]'(by omega) == (c : Int))) from by simp [lone, List.getD, hlt, hcc, show k < o0.length by omega, show k < o1.length by omega])
      rw [hcc] at hc2
      generalize o0[k]'(by omega) = d0 at *
      generalize o1[k]'(by omega) = d1 at *
      have kc00 := keep0 hc0r
      have kd00 := keep0 hc5
      have kc01 := keep1 hc0r
      have kd01 := keep1 hc5
      have kc10 := keep0 hc1r
      have kd10 := keep0 hc6
      have kc11 := keep1 hc1r
      have kd11 := keep1 hc6
      have kf0 := keep2 f0
      have kf1 := keep2 f1
      have kf2 := keep2 f2
      clear h16 hcc HL
      go_wp2
      refine wp_loop_rounds 3 ?_
      rw [rounds_succ]
      go_wp2
      rw [rounds_succ]
      go_wp2
      rw [rounds_succ]
      cases hm0 : (d0 == (c : Int)) <;> cases hm1 : (d1 == (c : Int))
      · skip
        go_wp2
        have hyes := HLn.out
        rw [hm0, hm1] at hyes
        have hv := HH.out hyes
        go_ret
        refine RetI.go hbW (RetI.go hbr ?_)
        refine RetI.one (base := wr.heap.size) (g := wr.heap.size + 1) hv ?_ rfl (by simp)
        (repeat (first | exact Below.refl _ _ | assumption | (refine Below.alloc ?_ (by first | omega | (simp; done) | (simp; omega)) _) | (refine Below.setCell ?_ (by first | omega | (simp; done) | (simp; omega)) _) | refine Below.drew ?_ | refine below_drewN ?_ _))
      · skip
        go_wp2
        have hno := HLn.out
        rw [hm0, hm1] at hno
        go_roundw
        case rel => exact ⟨k + 1, by omega, by go_num, (by (repeat (first | exact Below.refl _ _ | assumption | (refine Below.alloc ?_ (by first | omega | (simp; done) | (simp; omega)) _) | (refine Below.setCell ?_ (by first | omega | (simp; done) | (simp; omega)) _) | refine Below.drew ?_ | refine below_drewN ?_ _))), hide fun j hj => by
                      by_cases e : j = k
                      · subst e; exact hno
                      · exact hall.out j (by omega)⟩
        case measure => simp [intOf]; omega
      · skip
        go_wp2
        have hno := HLn.out
        rw [hm0, hm1] at hno
        go_roundw
        case rel => exact ⟨k + 1, by omega, by go_num, (by (repeat (first | exact Below.refl _ _ | assumption | (refine Below.alloc ?_ (by first | omega | (simp; done) | (simp; omega)) _) | (refine Below.setCell ?_ (by first | omega | (simp; done) | (simp; omega)) _) | refine Below.drew ?_ | refine below_drewN ?_ _))), hide fun j hj => by
                      by_cases e : j = k
                      · subst e; exact hno
                      · exact hall.out j (by omega)⟩
        case measure => simp [intOf]; omega
      · skip
        go_wp2
        have hno := HLn.out
        rw [hm0, hm1] at hno
        go_roundw
        case rel => exact ⟨k + 1, by omega, by go_num, (by (repeat (first | exact Below.refl _ _ | assumption | (refine Below.alloc ?_ (by first | omega | (simp; done) | (simp; omega)) _) | (refine Below.setCell ?_ (by first | omega | (simp; done) | (simp; omega)) _) | refine Below.drew ?_ | refine below_drewN ?_ _))), hide fun j hj => by
                      by_cases e : j = k
                      · subst e; exact hno
                      · exact hall.out j (by omega)⟩
        case measure => simp [intOf]; omega
    · have hkb : k = row.length := by omega
      subst hkb
      have hom := hide (only_miss row [o0, o1] hall.out)
      go_wp2_with fail
      refine (C.out _ ((hbW.mono hB).trans (hbr.mono hBW)) hBr).mono ?_
      intro e w1 hq
      obtain ⟨A9, c9, rfl, hs9, hb9, hf9⟩ := hq
      go_wp2
      go_ret
      rw [hom.out]
      exact RetI.go hbW (RetI.go hbr ⟨A9, c9, rfl, hs9, hb9, hf9⟩)
end Go.Proofs.Ytpkekdgpkalceaa
