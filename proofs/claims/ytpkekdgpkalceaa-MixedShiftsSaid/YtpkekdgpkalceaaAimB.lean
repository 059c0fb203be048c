/-
  Rows of numbers in memory, and the walk of tabs.spread. Conditions: slices no longer than the form lets them be.
-/
import Derived.Test.YtpkekdgpkalceaaAimA
namespace Go.Proofs.Ytpkekdgpkalceaa
open Go.RowKit
set_option linter.unusedVariables false

/-- A slice of slices of numbers that reads as rows. -/
def RdR (w : World) (B : Nat) (A : Option Addr) (rows : List (List Int)) : Prop :=
  0 < rows.length → ∃ b o, A = some ⟨b, o, none⟩ ∧ b < B ∧ ∀ j, j < rows.length → ∃ A' c, w.cell? ⟨b, o + j, none⟩ = some (.slice A' (rows.getD j []).length c) ∧ Rd w B A' (is (rows.getD j []))
section
variable {w w' : World} {B B' : Nat} {A : Option Addr} {rows : List (List Int)}
theorem RdR.at_ (h : RdR w B A rows) {k : Nat} (hk : k < rows.length) : ∃ b o A' c, A = some ⟨b, o, none⟩ ∧ b < B ∧ w.cell? ⟨b, o + k, none⟩ = some (.slice A' (rows.getD k []).length c) ∧ Rd w B A' (is (rows.getD k [])) := by
  obtain ⟨b, o, e, hb, hc⟩ := h (by omega)
  obtain ⟨A', c, h1, h2⟩ := hc k hk
  exact ⟨b, o, A', c, e, hb, h1, h2⟩
theorem RdR.below (h : RdR w B A rows) (hb : Below B w w') : RdR w' B A rows := fun hp => by
  obtain ⟨b, o, e, hb', hc⟩ := h hp
  refine ⟨b, o, e, hb', fun j hj => ?_⟩
  obtain ⟨A', c, h1, h2⟩ := hc j hj
  exact ⟨A', c, (hb.cell (p := ⟨b, o + j, none⟩) hb').trans h1, h2.below hb⟩
theorem RdR.more (h : RdR w B A rows) (hB : B ≤ B') : RdR w B' A rows := fun hp => by
  obtain ⟨b, o, e, hb', hc⟩ := h hp
  refine ⟨b, o, e, by omega, fun j hj => ?_⟩
  obtain ⟨A', c, h1, h2⟩ := hc j hj
  exact ⟨A', c, h1, h2.more hB⟩
theorem RdR.take (h : RdR w B A rows) (n : Nat) : RdR w B A (rows.take n) := fun hp => by
  obtain ⟨b, o, e, hb', hc⟩ := h (by simp at hp; omega)
  refine ⟨b, o, e, hb', fun j hj => ?_⟩
  have hj' : j < n ∧ j < rows.length := by simp at hj; omega
  obtain ⟨A', c, h1, h2⟩ := hc j hj'.2
  rw [getD_take _ _ _ _ hj'.1]
  exact ⟨A', c, h1, h2⟩
theorem RdR.call (h : RdR w B A rows) (hB : B ≤ w.heap.size) (hb : Below w.heap.size w w') : RdR w' B A rows := h.below (hb.mono hB)
end
/-- It hands back numbers, and has written to its own memory alone. -/
def RetI (w : World) (xs : List Int) (e : Ending) (w' : World) : Prop := ∃ A c, e = .returned (.slice A xs.length c) ∧ Rs w' A (is xs) ∧ Below w.heap.size w w' ∧ ∀ b o, A = some ⟨b, o, none⟩ → w.heap.size ≤ b

theorem spread_val (row o : List Int) (k : Nat) (hk : k < row.length) (c : Nat) (hc : row[k] = (c : Int)) : ((ent row k : Nat) : Int) = 16 * (k : Int) + (c : Int) := by
  unfold ent
  simp [List.getD, hk, hc]

set_option maxHeartbeats 800000 in
theorem spread_any (A A' : Option Addr) (c c' B : Nat) (row o0 o1 : List Int) (w : World) (hr : Rd w B A (is row)) (ho : RdR w B A' [o0, o1]) (hB : B ≤ w.heap.size) (hl : row.length ≤ 17592186043904)
    (h0 : o0.length = row.length) (h1 : o1.length = row.length) (hg : row.any badc = false) (hg1 : o1.any badc = false) (hd0 : o0 ≠ row) (hd1 : row ≠ o1) (nr : Nat) (hnr : row.length = nr) :
    Calls Try.prog 55 #[.slice A nr c, .slice A' 2 c'] w (RetI w (ns (spreadV row [o0, o1]))) := by
  subst hnr
  have D0 := hide (differ_hit o0 row h0 hd0 row.length h0.symm)
  have D1 := hide (differ_hit row o1 h1.symm hd1 row.length rfl)
  have hlo : ∀ k (h : k < row.length), 0 ≤ row[k] ∧ row[k] < 16 := fun k h => any_lo row hg k h
  have hlo1 : ∀ k (h : k < o1.length), 0 ≤ o1[k] ∧ o1[k] < 16 := fun k h => any_lo o1 hg1 k h
  have HL := hide hlo; have HL1 := hide hlo1
  clear hlo hlo1 hg hg1 hd0 hd1
  obtain ⟨b, o, rfl, hb, hc⟩ := ho (by simp)
  obtain ⟨A0, c0, hc0, hr0⟩ := hc 0 (by simp)
  obtain ⟨A1, c1, hc1, hr1⟩ := hc 1 (by simp)
  simp only [List.getD_cons_zero, List.getD_cons_succ, Nat.add_zero] at hc0 hc1 hr0 hr1
  rw [h0] at hc0
  rw [h1] at hc1
  clear hc ho
  go_enter Try.func55, Try.ntmps55
  go_wp2
  go_loop [5, 12] (fun v i => ∃ k : Nat, k ≤ row.length ∧ i = .int .i64 k ∧ v = .slice none 0 0 ∧ Hid (∀ j, j < k → differ o0 row j = false)) (fun _ i => row.length - (intOf i).toNat)
  case atStart => exact ⟨0, Nat.zero_le _, rfl, rfl, hide fun j h => absurd h (by omega)⟩
  case round =>
    obtain ⟨k, hk, rfl, rfl, hall⟩ := hrel
    by_cases hlt : k < row.length
    · obtain ⟨b2, p2, rfl, hb2, hc2⟩ := hr.i hlt
      obtain ⟨b3, p3, rfl, hb3, hc3⟩ := hr0.i (k := k) (by omega)
      have h16 := HL.out k hlt
      obtain ⟨c, hcc⟩ := Int.eq_ofNat_of_zero_le h16.1
      have hc16 : c < 16 := by omega
      have HV := hide (spread_val row o0 k hlt c hcc)
      have hdf : differ o0 row k = !(o0[k]'(by omega) == (c : Int)) := by unfold differ; simp [List.getD, hlt, hcc, show k < o0.length by omega]
      have HD := hide hdf
      rw [hcc] at hc2
      generalize o0[k]'(by omega) = d at *
      clear h16 hcc HL hdf
      go_wp2_with (at_builtin; (refine wp_append1 rfl _ _ _ rfl w.heap.size 3 _ (.int .i64 0) 8 Try.underlying29 Try.infoInt rfl _ _ _ _ rfl (World.ownsRow_nil _ _ _ _) _ rfl rfl (by omega) (by omega) (by omega) ?_))
      · intro A5 c5 w1 hown5 hbw
        have hne : (d != (c : Int)) = true := by assumption
        have hk1 : fst (differ o0 row) row.length 0 = k := fst_at _ _ 0 k (by omega) (by omega) (fun j _ hj => hall.out j hj) (by rw [HD.out]; simpa using hne)
        have HK := hide hk1
        clear hne hk1
        have hr' := hr.below (hbw.mono hB)
        have hr1' := hr1.below (hbw.mono hB)
        have hc1' := (hbw.cell (p := ⟨b, o + 1, none⟩) (by show b < w.heap.size; omega)).trans hc1
        go_wp2
        go_loop [37] (fun i => ∃ q : Nat, q ≤ row.length ∧ i = .int .i64 q ∧ Hid (∀ j, j < q → differ row o1 j = false)) (fun i => row.length - (intOf i).toNat)
        case atStart => exact ⟨0, Nat.zero_le _, rfl, hide fun j h => absurd h (by omega)⟩
        case round =>
          obtain ⟨q, hq, rfl, hall1⟩ := hrel
          by_cases hlt1 : q < row.length
          · obtain ⟨b4, p4, e4, hb4, hc4⟩ := hr'.i hlt1
            obtain ⟨b5, p5, e5, hb5, hc5⟩ := hr1'.i (k := q) (by omega)
            subst e5
            injection e4 with e4
            injection e4 with e41 e42
            subst e41 e42
            have h16 := HL1.out q (by omega)
            obtain ⟨c2, hcc⟩ := Int.eq_ofNat_of_zero_le h16.1
            have hc26 : c2 < 16 := by omega
            have HV1 := hide (spread_val o1 row q (by omega) c2 hcc)
            have hdf : differ row o1 q = !((row[q]'hlt1) == (c2 : Int)) := by unfold differ; simp [List.getD, hlt1, hcc, show q < o1.length by omega]
            have HD1 := hide hdf
            rw [hcc] at hc5
            generalize row[q]'hlt1 = d1 at *
            clear h16 hcc HL1 hdf
            go_wp2_with (at_builtin; (refine wp_append1 rfl _ _ _ rfl w.heap.size 3 _ (.int .i64 0) 8 Try.underlying29 Try.infoInt rfl _ _ _ _ rfl hown5 _ rfl rfl (by omega) (by omega) hbw.size ?_))
            · intro A6 c6 w2 hown6 hbw2
              have hne : (d1 != (c2 : Int)) = true := by assumption
              have hk2 : fst (differ row o1) row.length 0 = q := fst_at _ _ 0 q (by omega) (by omega) (fun j _ hj => hall1.out j hj) (by rw [HD1.out]; simpa using hne)
              go_wp2
              go_ret
              refine ⟨A6, c6, rfl, ?_, hbw.trans hbw2, fun b o hA => (hown6.lt b (by rw [hA]; rfl)).1⟩
              have := Rs.of_own hown6
              have e : is (ns (spreadV row [o0, o1])) = ([] ++ [.int .i64 (16 * (k : Int) + (c : Int))]) ++ [.int .i64 (16 * (q : Int) + (c2 : Int))] := by
                unfold spreadV
                simp only [List.getD_cons_zero, List.getD_cons_succ]
                rw [HK.out, hk2]
                simp [is, ns, HV.out, HV1.out]
              rw [e]; exact this
            · go_round
              case rel => exact ⟨q + 1, by omega, by go_num, hide fun j hj => by
                            by_cases e : j = q
                            · subst e; rw [HD1.out]; first | (simp; assumption) | grind
                            · exact hall1.out j (by omega)⟩
              case measure => simp [intOf]; omega
          · exfalso
            have := D1.out
            have hqn : q = row.length := by omega
            have h2 : differ row o1 (fst (differ row o1) row.length 0) = false := hall1.out _ (by rw [hqn]; exact this.1)
            generalize fst (differ row o1) row.length 0 = f at this h2
            unfold differ at h2
            exact this.2 (by simpa using h2)
      · go_round
        case rel => exact ⟨k + 1, by omega, by go_num, rfl, hide fun j hj => by
                      by_cases e : j = k
                      · subst e; rw [HD.out]; first | (simp; assumption) | grind
                      · exact hall.out j (by omega)⟩
        case measure => simp [intOf]; omega
    · exfalso
      have := D0.out
      have hqn : k = row.length := by omega
      have h2 : differ o0 row (fst (differ o0 row) row.length 0) = false := hall.out _ (by rw [hqn]; exact this.1)
      generalize fst (differ o0 row) row.length 0 = f at this h2
      unfold differ at h2
      exact this.2 (by simpa using h2)
end Go.Proofs.Ytpkekdgpkalceaa
