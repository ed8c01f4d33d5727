-- Printed by a program of this session's (wip/mkprint.py, over the kit's print): not typed by hand.
import Derived.Test.YtcpmdkopbhddkaaPFnExactWholex0
import Derived.Test.YtcpmdkopbhddkaaPFnExactWholex2
namespace Go.Proofs.Ytcpmdkopbhddkaa.PFnExactWhole
open Go.RowKit Go.Proofs.YtcpmdkopbhddkaaW.PrintWords Go.Proofs.YtcpmdkopbhddkaaW.PrintLast Go.Proofs.YtcpmdkopbhddkaaW.PrintMore
attribute [local go_sem] max2_int min2_int max_two min_two max_three min_three max_four min_four   -- for this text's walks alone
set_option linter.unusedVariables false
set_option linter.unusedSimpArgs false

/-! ### impl_getBytes: function 51 -/
def impl_getBytes.l0 : Nat → Int → List Int → Int → Int → Option (Int)
  | 0, _, _, _, _ => none
  | k + 1, x3, x6, x7, x8 => if x8 < x7 then (if 0 ≤ x8 then (if x8 < (x6.length : Int) then (impl_getBytes.l0 k (wrap64 ((wrap64 (256 * x3)) + (wrap64 (rd x6 x8)))) x6 x7 (wrap64 (x8 + 1))) else (none)) else (none)) else (some x3)
def impl_getBytes.f (k : Nat) (l0 : List Int) : Option (Int) := impl_getBytes.l0 k 0 l0 (l0.length : Int) 0
theorem impl_getBytes.mono_l : ∀ k, (∀ y0 y1 y2 y3, LeO (impl_getBytes.l0 k y0 y1 y2 y3) (impl_getBytes.l0 (k + 1) y0 y1 y2 y3))
  | 0 => fun _ _ _ _ r h => by simp [impl_getBytes.l0] at h
  | k + 1 => by
    have ih0 := impl_getBytes.mono_l k
    · intro y0 y1 y2 y3
      unfold impl_getBytes.l0
      repeat' first
      | (with_reducible exact ih0 _ _ _ _)
      | (with_reducible exact LeO.refl _)
      | (with_reducible exact LeO.none _)
      | (with_reducible refine LeO.ite ?_ ?_)
      | (with_reducible refine LeO.bind ?_ (fun _ => ?_))
      | exact ih0 _ _ _ _
      | exact LeO.none _
      | refine LeO.ite ?_ ?_
      | refine LeO.bind ?_ (fun _ => ?_)
theorem impl_getBytes.mono : ∀ a0 k, LeO (impl_getBytes.f k a0) (impl_getBytes.f (k + 1) a0) := by
  intro a0 k
  have ih0 := impl_getBytes.mono_l k
  unfold impl_getBytes.f
  repeat' first
      | (with_reducible exact ih0 _ _ _ _)
      | (with_reducible exact LeO.refl _)
      | (with_reducible exact LeO.none _)
      | (with_reducible refine LeO.ite ?_ ?_)
      | (with_reducible refine LeO.bind ?_ (fun _ => ?_))
      | exact ih0 _ _ _ _
      | exact LeO.none _
      | refine LeO.ite ?_ ?_
      | refine LeO.bind ?_ (fun _ => ?_)
set_option maxHeartbeats 8000000 in
set_option maxRecDepth 100000 in
theorem impl_getBytes.calls (k : Nat) (A0 : Option Addr) (c0 : Nat) (l0 : List Int) (r : Int) (w : World) (hr0 : Kd.C (Kd.int .u8) w A0 l0.length l0) (hc0 : l0.length ≤ c0) (h : impl_getBytes.f k l0 = some r) :
    Calls Try.prog 51 #[.slice A0 l0.length c0] w fun e w' => e = .returned (.int .i64 r) ∧ Drawn0 w w' := by
  have HR0 := Aside0.mk hr0
  have HC0 := Aside0.mk hc0
  clear hr0 hc0
  have H : (impl_getBytes.l0 k 0 l0 (l0.length : Int) 0) = some r := h
  clear h
  have H' := Aside0.mk H
  clear H
  go_enter Try.func51, Try.ntmps51
  go_wp2
  go_loopg [3, 8] k (fun kq v3 v8 w' => ∃ (x3_1 : Int) (x8_1 : Int), v3 = .int .i64 x3_1 ∧ v8 = .int .i64 x8_1 ∧ Aside0 (impl_getBytes.l0 kq x3_1 l0 (l0.length : Int) x8_1 = some r) ∧ Aside0 (kq ≤ k) ∧ Drawn0 w w')
  case atStart => exact ⟨(0), (0), (by first | rfl | (simp; done) | (simp [*]; done)), (by first | rfl | (simp; done) | (simp [*]; done)), H', ⟨Nat.le_refl _⟩, by repeat (first | exact Drawn0.refl _ | apply Drawn0.step)⟩
  case round =>
    clear H'
    obtain ⟨x3_1, x8_1, rfl, rfl, HA, HK1, ⟨m1, rfl⟩⟩ := hrel
    cases gk with
    | zero => exact absurd HA.out (by simp [impl_getBytes.l0])
    | succ k1 =>
      have H := HA.out
      clear HA
      simp only [impl_getBytes.l0] at H
      by_cases c2 : x8_1 < (l0.length : Int)
      · rw [if_pos c2] at H
        have c2b0 : decide (x8_1 < (l0.length : Int)) = true := decide_eq_true c2
        clear c2
        by_cases c3 : 0 ≤ x8_1
        · rw [if_pos c3] at H
          have c3b0 : decide (0 ≤ x8_1) = true := decide_eq_true c3
          clear c3
          by_cases c4 : x8_1 < (l0.length : Int)
          · rw [if_pos c4] at H
            have c4b0 : decide (x8_1 < (l0.length : Int)) = true := decide_eq_true c4
            clear c4
            have H' := Aside0.mk H
            clear H
            have p143 : 0 ≤ (x8_1 : Int) := of_decide_eq_true (by first | (with_reducible assumption) | assumption)
            have q143 : x8_1 < (l0.length : Int) := of_decide_eq_true (by first | (with_reducible assumption) | assumption)
            obtain ⟨ad143, e143, hx143_0⟩ := Kd.at_int HR0.out x8_1 p143 q143
            cases e143
            replace p143 := eq_true p143
            replace q143 := eq_true q143
            go_wp2
            go_roundg k1
            case measure => have := HK1.out; omega
            case rel => exact ⟨(wrap64 ((wrap64 (256 * x3_1)) + (wrap64 (rd l0 x8_1)))), (wrap64 (x8_1 + 1)), (by first | rfl | (simp; done) | (simp [*]; done)), (by first | rfl | (simp; done) | (simp [*]; done)), H', ⟨by have := HK1.out; omega⟩, by repeat (first | exact Drawn0.refl _ | apply Drawn0.step)⟩
          · rw [if_neg c4] at H
            exact absurd H (by simp)
        · rw [if_neg c3] at H
          exact absurd H (by simp)
      · rw [if_neg c2] at H
        have c2b0 : decide (x8_1 < (l0.length : Int)) = false := decide_eq_false c2
        clear c2
        obtain rfl := Option.some.inj H
        go_wp2
        go_ret
        exact ⟨by first | rfl | (simp; done) | (simp [*]; done), by repeat (first | exact Drawn0.refl _ | apply Drawn0.step)⟩

/-! ### slices_Clone_byte_byte: function 52 -/
/-- A copy: the same elements, in memory of the call's own. -/
def slices_Clone_byte_byte.f (l0 : List Int) : Option (List Int) := if l0.length < 140737488355328 then some l0 else none
set_option maxHeartbeats 8000000 in
set_option maxRecDepth 100000 in
theorem slices_Clone_byte_byte.calls (A0 : Option Addr) (c0 : Nat) (l0 : List Int) (r : List Int) (w : World) (hr0 : Kd.C (Kd.int .u8) w A0 l0.length l0) (hc0 : l0.length ≤ c0) (h : slices_Clone_byte_byte.f l0 = some r) :
    Calls Try.prog 52 #[.slice A0 l0.length c0] w fun e w' => ∃ v0_ : Value, e = .returned (v0_) ∧ Kd.R (Kd.int .u8) 5 w' w.heap.size (fun _ => True) v0_ r ∧ Below w.heap.size w w' := by
  unfold slices_Clone_byte_byte.f at h
  by_cases hlt : l0.length < 140737488355328
  · rw [if_pos hlt] at h
    obtain rfl := Option.some.inj h
    have LM := Aside0.mk hlt
    clear hlt h
    cases A0 with
    | none =>
      have hl : l0 = [] := by
        rcases Nat.eq_zero_or_pos l0.length with h0 | h0
        · exact List.length_eq_zero_iff.1 h0
        · obtain ⟨ad, e, _⟩ := hr0.2.2 h0
          cases e
      subst hl
      clear hr0 hc0 LM
      have heq := fun w => Lib.run_eql_slice_nil (P := Try.prog) w 22 5 none 0 c0 0 0 Try.underlying22
      go_enter Try.func52, Try.ntmps52
      go_wp2
      go_ret
      exact ⟨_, rfl, Kd.R_nil _ _ _ _ _, Below.refl _ _⟩
    | some ad =>
      have HR0 := Aside0.mk hr0
      have HC0 := Aside0.mk hc0
      clear hr0 hc0
      have HB := Aside0.mk (Below.refl w.heap.size w)
      obtain ⟨y9, hy9⟩ : ∃ y_ : List Int, y_ = ([] : List Int) := ⟨_, rfl⟩
      have NY := Aside0.mk hy9
      clear hy9
      have heq := fun w => Lib.run_eql_slice_nil (P := Try.prog) w 22 5 (some ad) l0.length c0 0 0 Try.underlying22
      go_enter Try.func52, Try.ntmps52
      go_wp2_with (first | ((with_reducible refine gate_dst (N := 5) rfl ?_); refine Kd.R_lit (Kd.int .u8) _ 5 ?hg (N := 5) ?hd (xs := ([] : List Int)) (inner := []) (ok := fun _ => True) (okp := fun _ => True) ?hr ?hp (fun _ hk => hk) trivial (Below.refl _ _) (Nat.le_refl _) (by simp) ?_; (case hd => rfl); (case hg => rfl); (case hr => first | (go_simp; done) | (go_simp; rfl)); (case hp => exact (Reps.none _ _)); intro v1 w6 ho7 hb hg_ hnew_; clear hg_ hnew_; (first | rw [← NY.out] at ho7 | (simp only [Int.reduceToNat] at ho7; rw [← NY.out] at ho7)); have n0_ := Aside0.mk (Kd.R_lower ho7 (below_size (by repeat (first | (with_reducible first | exact HB.out | apply below_alloc | apply pw_below_drewN | apply below_drew1) | exact HB.out)))); have n1_ := Aside0.mk (below_step (by repeat (first | (with_reducible first | exact HB.out | apply below_alloc | apply pw_below_drewN | apply below_drew1) | exact HB.out)) hb); clear HB; have HO1 := n0_; have HB := n1_; clear n0_ n1_; clear hb ho7) | ((with_reducible refine gate_builtin (b := .append) (xs := #[.tmp 5, .tmp 6]) rfl ?_); at_builtin; refine Kd.R_append_rows (Kd.int .u8) (w0 := w) w.heap.size rfl (.tmp 5) (.tmp 6) 22 5 (.int .u8 0) 1 rfl Try.underlying22 info5 rfl (by decide) (by omega) v1 y9 l0 _ _ _ (fun _ => True) (fun _ => False) rfl rfl ?aO ?aR (fun _ _ h => h) (fun _ h => h.elim) ?aF ?aB ?aS ?aL ?_; (case aR => repeat (first | exact (Kd.C_below HR0.out HB.out) | (with_reducible refine Kd.C_alloc ?_ _) | (with_reducible refine Kd.C_drewN ?_ _) | (with_reducible refine Kd.C_drew ?_))); (case aB => exact (by repeat (first | (with_reducible first | exact HB.out | apply below_alloc | apply pw_below_drewN | apply below_drew1) | exact HB.out))); (case aF => exact (fun _ _ => trivial)); (case aO => exact (by (with_reducible repeat (first | apply Kd.R_alloc | apply Kd.R_drewN | apply Kd.R_drew)); exact HO1.out)); (case aS => exact (below_size (by repeat (first | (with_reducible first | exact HB.out | apply below_alloc | apply pw_below_drewN | apply below_drew1) | exact HB.out)))); (case aL => rw [NY.out]; have h1 := LM.out; simp only [List.length_nil]; omega); intro v2 w8 ho hb hg hat; rw [NY.out, List.nil_append] at ho; have n0_ := Aside0.mk ho; have n1_ := Aside0.mk hb; clear HB HO1; have HO2 := n0_; have HB := n1_; clear n0_ n1_ ho hb hg hat))
      go_ret
      exact ⟨_, by first | rfl | (simp; done), by (with_reducible repeat (first | apply Kd.R_alloc | apply Kd.R_drewN | apply Kd.R_drew)); exact HO2.out, by repeat (first | (with_reducible first | exact HB.out | apply below_alloc | apply pw_below_drewN | apply below_drew1) | exact HB.out)⟩
  · rw [if_neg hlt] at h
    cases h

/-! ### impl_FrameRead: function 26 -/
mutual
def impl_FrameRead.j0 : Nat → List Int → Int → Bool → Option (Int × List Int × Int × Int)
  | 0, _, _, _ => none
  | k + 1, x0, x1, x19 => if x19 = true then (some (0, ([] : List Int), 0, 1)) else (if 0 ≤ x1 then (if x1 ≤ (x0.length : Int) then (if ((x0.drop (x1 : Int).toNat).length : Int) < 11 then (some (0, ([] : List Int), 0, 2)) else (if 1 ≤ 4 then (if 4 ≤ ((x0.drop (x1 : Int).toNat).length : Int) then ((impl_getBytes.f k (((x0.drop (x1 : Int).toNat).take 4).drop 1)).bind fun t146 => (if 4 ≤ 7 then (if 7 ≤ ((x0.drop (x1 : Int).toNat).length : Int) then ((impl_getBytes.f k (((x0.drop (x1 : Int).toNat).take 7).drop 4)).bind fun t148 => (if 0 < ((x0.drop (x1 : Int).toNat).length : Int) then (if (rd (x0.drop (x1 : Int).toNat) 0) = 82 then (if 7 ≤ 11 then (if 11 ≤ ((x0.drop (x1 : Int).toNat).length : Int) then ((impl_getBytes.f k (((x0.drop (x1 : Int).toNat).take 11).drop 7)).bind fun t151 => ((impl_Crc.f k ((x0.drop (x1 : Int).toNat).take 7)).bind fun t153 => (if t151 = t153 then (if t146 > 100000 then (impl_FrameRead.j1 k x1 (x0.drop (x1 : Int).toNat) t146 t148 true) else (impl_FrameRead.j1 k x1 (x0.drop (x1 : Int).toNat) t146 t148 (decide (t148 > 4000)))) else (impl_FrameRead.j1 k x1 (x0.drop (x1 : Int).toNat) t146 t148 true)))) else (none)) else (none)) else (impl_FrameRead.j1 k x1 (x0.drop (x1 : Int).toNat) t146 t148 true)) else (none))) else (none)) else (none))) else (none)) else (none))) else (none)) else (none))
def impl_FrameRead.j1 : Nat → Int → List Int → Int → Int → Bool → Option (Int × List Int × Int × Int)
  | 0, _, _, _, _, _ => none
  | k + 1, x1, x8, x9, x10, x52 => if x52 = true then (some (0, ([] : List Int), 0, 3)) else (if (x8.length : Int) < (wrap64 (15 + x10)) then (some (0, ([] : List Int), 0, 4)) else (if 15 ≤ (wrap64 (15 + x10)) then (if (wrap64 (15 + x10)) ≤ (x8.length : Int) then (if 11 ≤ 15 then (if 15 ≤ (x8.length : Int) then ((impl_getBytes.f k ((x8.take 15).drop 11)).bind fun t156 => ((impl_Crc.f k ((x8.take ((wrap64 (15 + x10)) : Int).toNat).drop 15)).bind fun t157 => (if t156 = t157 then ((slices_Clone_byte_byte.f ((x8.take ((wrap64 (15 + x10)) : Int).toNat).drop 15)).bind fun t158 => (some (x9, t158, wrap64 ((wrap64 (x1 + 15)) + x10), 0))) else (some (0, ([] : List Int), 0, 5))))) else (none)) else (none)) else (none)) else (none)))
end
def impl_FrameRead.f (k : Nat) (l0 : List Int) (a1 : Int) : Option (Int × List Int × Int × Int) := if a1 < 0 then (impl_FrameRead.j0 k l0 a1 true) else (impl_FrameRead.j0 k l0 a1 (decide (a1 > (l0.length : Int))))
theorem impl_FrameRead.mono_l : ∀ k, (∀ y0 y1 y2, LeO (impl_FrameRead.j0 k y0 y1 y2) (impl_FrameRead.j0 (k + 1) y0 y1 y2)) ∧ (∀ y0 y1 y2 y3 y4, LeO (impl_FrameRead.j1 k y0 y1 y2 y3 y4) (impl_FrameRead.j1 (k + 1) y0 y1 y2 y3 y4))
  | 0 => ⟨fun _ _ _ r h => by simp [impl_FrameRead.j0] at h, fun _ _ _ _ _ r h => by simp [impl_FrameRead.j1] at h⟩
  | k + 1 => by
    obtain ⟨ih0, ih1⟩ := impl_FrameRead.mono_l k
    refine ⟨?_, ?_⟩
    · intro y0 y1 y2
      unfold impl_FrameRead.j0
      repeat' first
      | (with_reducible exact ih0 _ _ _)
      | (with_reducible exact ih1 _ _ _ _ _)
      | (with_reducible exact impl_Crc.mono _ _)
      | (with_reducible exact impl_getBytes.mono _ _)
      | (with_reducible exact LeO.refl _)
      | (with_reducible exact LeO.none _)
      | (with_reducible refine LeO.ite ?_ ?_)
      | (with_reducible refine LeO.bind ?_ (fun _ => ?_))
      | exact ih0 _ _ _
      | exact ih1 _ _ _ _ _
      | exact impl_Crc.mono _ _
      | exact impl_getBytes.mono _ _
      | exact LeO.none _
      | refine LeO.ite ?_ ?_
      | refine LeO.bind ?_ (fun _ => ?_)
    · intro y0 y1 y2 y3 y4
      unfold impl_FrameRead.j1
      repeat' first
      | (with_reducible exact ih0 _ _ _)
      | (with_reducible exact ih1 _ _ _ _ _)
      | (with_reducible exact impl_Crc.mono _ _)
      | (with_reducible exact impl_getBytes.mono _ _)
      | (with_reducible exact LeO.refl _)
      | (with_reducible exact LeO.none _)
      | (with_reducible refine LeO.ite ?_ ?_)
      | (with_reducible refine LeO.bind ?_ (fun _ => ?_))
      | exact ih0 _ _ _
      | exact ih1 _ _ _ _ _
      | exact impl_Crc.mono _ _
      | exact impl_getBytes.mono _ _
      | exact LeO.none _
      | refine LeO.ite ?_ ?_
      | refine LeO.bind ?_ (fun _ => ?_)
theorem impl_FrameRead.mono : ∀ a0 a1 k, LeO (impl_FrameRead.f k a0 a1) (impl_FrameRead.f (k + 1) a0 a1) := by
  intro a0 a1 k
  obtain ⟨ih0, ih1⟩ := impl_FrameRead.mono_l k
  unfold impl_FrameRead.f
  repeat' first
      | (with_reducible exact ih0 _ _ _)
      | (with_reducible exact ih1 _ _ _ _ _)
      | (with_reducible exact impl_Crc.mono _ _)
      | (with_reducible exact impl_getBytes.mono _ _)
      | (with_reducible exact LeO.refl _)
      | (with_reducible exact LeO.none _)
      | (with_reducible refine LeO.ite ?_ ?_)
      | (with_reducible refine LeO.bind ?_ (fun _ => ?_))
      | exact ih0 _ _ _
      | exact ih1 _ _ _ _ _
      | exact impl_Crc.mono _ _
      | exact impl_getBytes.mono _ _
      | exact LeO.none _
      | refine LeO.ite ?_ ?_
      | refine LeO.bind ?_ (fun _ => ?_)
set_option maxHeartbeats 8000000 in
set_option maxRecDepth 100000 in
theorem impl_FrameRead.calls (k : Nat) (A0 : Option Addr) (c0 : Nat) (l0 : List Int) (a1 : Int) (r1 : Int) (r2 : List Int) (r3 : Int) (r4 : Int) (w : World) (hr0 : Kd.C (Kd.int .u8) w A0 l0.length l0) (hc0 : l0.length ≤ c0) (h : impl_FrameRead.f k l0 a1 = some (r1, r2, r3, r4)) :
    Calls Try.prog 26 #[.slice A0 l0.length c0, .int .i64 a1] w fun e w' => ∃ v1_ : Value, e = .returned (.tuple #[.int .i64 r1, v1_, .int .i64 r3, .int .i64 r4]) ∧ Kd.R (Kd.int .u8) 5 w' w.heap.size (fun _ => True) v1_ r2 ∧ Below w.heap.size w w' := by
  have HR0 := Aside0.mk hr0
  have HC0 := Aside0.mk hc0
  clear hr0 hc0
  have HB := Aside0.mk (Below.refl w.heap.size w)
  obtain ⟨y9_, hy9_⟩ : ∃ y_ : List Int, y_ = l0.drop (a1 : Int).toNat := ⟨_, rfl⟩
  have H : (if a1 < 0 then (impl_FrameRead.j0 k l0 a1 true) else (impl_FrameRead.j0 k l0 a1 (decide (a1 > (l0.length : Int))))) = some (r1, r2, r3, r4) := by first | exact h | (rw [hy9_]; exact h)
  clear h
  have NY9_ := Aside0.mk hy9_
  clear hy9_
  have HC3 := Aside0.mk H
  clear H
  go_enter Try.func26, Try.ntmps26
  go_upto_region 1 with (fail)
  repeat (go_quiet (fail); go_upto_region 1 with (fail))
  go_cut [19] (fun v19 wc => ∃ (kq : Nat) (x19_2 : Bool), v19 = .bool x19_2 ∧ Aside0 (impl_FrameRead.j0 kq l0 a1 x19_2 = some (r1, r2, r3, r4)) ∧ Aside0 (kq ≤ k) ∧ Aside0 (Below w.heap.size w wc))
  case first =>
    have H := HC3.out
    clear HC3
    by_cases c4 : a1 < 0
    · rw [if_pos c4] at H
      have c4b0 : decide (a1 < 0) = true := decide_eq_true c4
      clear c4
      (first | rw [c4b0] | (simp only [i64_w, i32_w]; rw [c4b0]) | skip)
      have H' := Aside0.mk H
      clear H
      go_wp2
      repeat (go_quiet (fail); try go_wp2)
      go_meet
      case rel => exact ⟨_, (true), (by first | rfl | (simp; done) | (simp [*]; done)), H', ⟨by first | omega | exact Nat.le_refl _⟩, ⟨by repeat (first | (with_reducible first | exact HB.out | apply below_alloc | apply pw_below_drewN | apply below_drew1) | exact HB.out)⟩⟩
    · rw [if_neg c4] at H
      have c4b0 : decide (a1 < 0) = false := decide_eq_false c4
      clear c4
      (first | rw [c4b0] | (simp only [i64_w, i32_w]; rw [c4b0]) | skip)
      have H' := Aside0.mk H
      clear H
      go_wp2
      repeat (go_quiet (fail); try go_wp2)
      go_meet
      case rel => exact ⟨_, (decide (a1 > (l0.length : Int))), (by first | rfl | (simp; done) | (simp [*]; done)), H', ⟨by first | omega | exact Nat.le_refl _⟩, ⟨by repeat (first | (with_reducible first | exact HB.out | apply below_alloc | apply pw_below_drewN | apply below_drew1) | exact HB.out)⟩⟩
  case rest =>
    clear HC3
    try clear c2
    try clear p2
    try clear c4
    try clear c4b0
    obtain ⟨kq, x19_2, rfl, HA, HJ2, HB⟩ := hcut
    cases kq with
    | zero => exact absurd HA.out (by simp [impl_FrameRead.j0])
    | succ kj2 =>
      have H := HA.out
      clear HA
      simp only [impl_FrameRead.j0] at H
      (try rw [← NY9_.out] at H)
      by_cases c5 : x19_2 = true
      · subst c5
        have H1 : (some (0, ([] : List Int), 0, 1)) = some (r1, r2, r3, r4) := by rw [if_pos rfl] at H; exact H
        clear H
        have H := H1
        clear H1
        simp only [Option.some.injEq, Prod.mk.injEq] at H
        obtain ⟨rfl, rfl, rfl, rfl⟩ := H
        go_wp2
        repeat (go_quiet (fail); try go_wp2)
        refine bodyPost_ret (results_list (rs := [.tmp 4, .tmp 5, .tmp 6, .tmp 7]) rfl (by simp) (.tmp (.tmp (.tmp (.tmp .nil))))) rfl ?_
        exact ⟨_, by first | rfl | (simp [errW_none, errW_some] <;> rfl) | (simp [*, errW_none, errW_some] <;> rfl), by first | exact Kd.R_nil _ _ _ _ _ | exact Kd.N_nil _ _ _ _ _ | exact Kd.V_nil _ _ _ _ _ | exact Kd.Q_nil _ _ _ _ _ | exact Kd.S_nil _ _ _ _ _, by repeat (first | (with_reducible first | exact HB.out | apply below_alloc | apply pw_below_drewN | apply below_drew1) | exact HB.out)⟩
      · replace c5 := Bool.eq_false_iff.mpr c5
        subst c5
        have H1 : (if 0 ≤ a1 then (if a1 ≤ (l0.length : Int) then (if (y9_.length : Int) < 11 then (some (0, ([] : List Int), 0, 2)) else (if 1 ≤ 4 then (if 4 ≤ (y9_.length : Int) then ((impl_getBytes.f kj2 ((y9_.take 4).drop 1)).bind fun t146 => (if 4 ≤ 7 then (if 7 ≤ (y9_.length : Int) then ((impl_getBytes.f kj2 ((y9_.take 7).drop 4)).bind fun t148 => (if 0 < (y9_.length : Int) then (if (rd y9_ 0) = 82 then (if 7 ≤ 11 then (if 11 ≤ (y9_.length : Int) then ((impl_getBytes.f kj2 ((y9_.take 11).drop 7)).bind fun t151 => ((impl_Crc.f kj2 (y9_.take 7)).bind fun t153 => (if t151 = t153 then (if t146 > 100000 then (impl_FrameRead.j1 kj2 a1 y9_ t146 t148 true) else (impl_FrameRead.j1 kj2 a1 y9_ t146 t148 (decide (t148 > 4000)))) else (impl_FrameRead.j1 kj2 a1 y9_ t146 t148 true)))) else (none)) else (none)) else (impl_FrameRead.j1 kj2 a1 y9_ t146 t148 true)) else (none))) else (none)) else (none))) else (none)) else (none))) else (none)) else (none)) = some (r1, r2, r3, r4) := by rw [if_neg (show ¬ (false = true) by decide)] at H; exact H
        clear H
        have H := H1
        clear H1
        by_cases c6 : 0 ≤ a1
        · rw [if_pos c6] at H
          have c6b0 := eq_true c6
          have c6b1 : decide (0 ≤ a1) = true := decide_eq_true c6
          clear c6
          by_cases c7 : a1 ≤ (l0.length : Int)
          · rw [if_pos c7] at H
            have c7b0 := eq_true c7
            have c7b1 : decide (a1 ≤ (l0.length : Int)) = true := decide_eq_true c7
            clear c7
            by_cases c8 : (y9_.length : Int) < 11
            · rw [if_pos c8] at H
              have c8b0 : decide ((y9_.length : Int) < 11) = true := decide_eq_true c8
              have c8b1 : decide (y9_.length < 11) = true := decide_eq_true (by omega)
              clear c8
              simp only [Option.some.injEq, Prod.mk.injEq] at H
              obtain ⟨rfl, rfl, rfl, rfl⟩ := H
              obtain ⟨i09, hi09, _, hsz9, _⟩ := info_parts info5
              obtain ⟨A9, hcut9, hA9, hC9⟩ := print_drop_of (P := Try.prog) (Value.int .u8) 0 22 5 .i64 Try.underlying22 hi09 hsz9 A0 c0 l0 a1 (of_decide_eq_true (by first | (with_reducible assumption) | assumption)) (of_decide_eq_true (by first | (with_reducible assumption) | assumption)) HC0.out
              rw [← NY9_.out] at hcut9 hA9 hC9
              have HR144 := Aside0.mk (Kd.C_of_reads (h1 := fun _ => rfl) (hA9 _ (Kd.reads_of_C HR0.out)))
              have HC144 := Aside0.mk hC9
              clear hA9 hC9 hi09 hsz9
              go_wp2
              repeat (go_quiet (fail); try go_wp2)
              refine bodyPost_ret (results_list (rs := [.tmp 4, .tmp 5, .tmp 6, .tmp 7]) rfl (by simp) (.tmp (.tmp (.tmp (.tmp .nil))))) rfl ?_
              exact ⟨_, by first | rfl | (simp [errW_none, errW_some] <;> rfl) | (simp [*, errW_none, errW_some] <;> rfl), by first | exact Kd.R_nil _ _ _ _ _ | exact Kd.N_nil _ _ _ _ _ | exact Kd.V_nil _ _ _ _ _ | exact Kd.Q_nil _ _ _ _ _ | exact Kd.S_nil _ _ _ _ _, by repeat (first | (with_reducible first | exact HB.out | apply below_alloc | apply pw_below_drewN | apply below_drew1) | exact HB.out)⟩
            · rw [if_neg c8] at H
              have c8b0 : decide ((y9_.length : Int) < 11) = false := decide_eq_false c8
              have c8b1 : decide (y9_.length < 11) = false := decide_eq_false (by omega)
              clear c8
              by_cases c10 : 1 ≤ 4
              · rw [if_pos c10] at H
                have c10b0 := eq_true c10
                have c10b1 : decide (1 ≤ 4) = true := decide_eq_true c10
                clear c10
                by_cases c11 : 4 ≤ (y9_.length : Int)
                · rw [if_pos c11] at H
                  have c11b0 := eq_true c11
                  have c11b1 : decide (4 ≤ (y9_.length : Int)) = true := decide_eq_true c11
                  clear c11
                  replace H := Option.bind_eq_some_iff.mp H
                  obtain ⟨t146, A120, H⟩ := H
                  replace H : (if 4 ≤ 7 then (if 7 ≤ (y9_.length : Int) then ((impl_getBytes.f kj2 ((y9_.take 7).drop 4)).bind fun t148 => (if 0 < (y9_.length : Int) then (if (rd y9_ 0) = 82 then (if 7 ≤ 11 then (if 11 ≤ (y9_.length : Int) then ((impl_getBytes.f kj2 ((y9_.take 11).drop 7)).bind fun t151 => ((impl_Crc.f kj2 (y9_.take 7)).bind fun t153 => (if t151 = t153 then (if t146 > 100000 then (impl_FrameRead.j1 kj2 a1 y9_ t146 t148 true) else (impl_FrameRead.j1 kj2 a1 y9_ t146 t148 (decide (t148 > 4000)))) else (impl_FrameRead.j1 kj2 a1 y9_ t146 t148 true)))) else (none)) else (none)) else (impl_FrameRead.j1 kj2 a1 y9_ t146 t148 true)) else (none))) else (none)) else (none)) = some (r1, r2, r3, r4) := H
                  have A12 := Aside0.mk A120
                  clear A120
                  by_cases c13 : 4 ≤ 7
                  · rw [if_pos c13] at H
                    have c13b0 := eq_true c13
                    have c13b1 : decide (4 ≤ 7) = true := decide_eq_true c13
                    clear c13
                    by_cases c14 : 7 ≤ (y9_.length : Int)
                    · rw [if_pos c14] at H
                      have c14b0 := eq_true c14
                      have c14b1 : decide (7 ≤ (y9_.length : Int)) = true := decide_eq_true c14
                      clear c14
                      replace H := Option.bind_eq_some_iff.mp H
                      obtain ⟨t148, A150, H⟩ := H
                      replace H : (if 0 < (y9_.length : Int) then (if (rd y9_ 0) = 82 then (if 7 ≤ 11 then (if 11 ≤ (y9_.length : Int) then ((impl_getBytes.f kj2 ((y9_.take 11).drop 7)).bind fun t151 => ((impl_Crc.f kj2 (y9_.take 7)).bind fun t153 => (if t151 = t153 then (if t146 > 100000 then (impl_FrameRead.j1 kj2 a1 y9_ t146 t148 true) else (impl_FrameRead.j1 kj2 a1 y9_ t146 t148 (decide (t148 > 4000)))) else (impl_FrameRead.j1 kj2 a1 y9_ t146 t148 true)))) else (none)) else (none)) else (impl_FrameRead.j1 kj2 a1 y9_ t146 t148 true)) else (none)) = some (r1, r2, r3, r4) := H
                      have A15 := Aside0.mk A150
                      clear A150
                      have HC16 := Aside0.mk H
                      clear H
                      obtain ⟨i017, hi017, _, hsz17, _⟩ := info_parts info5
                      obtain ⟨A17, hcut17, hA17, hC17⟩ := print_drop_of (P := Try.prog) (Value.int .u8) 0 22 5 .i64 Try.underlying22 hi017 hsz17 A0 c0 l0 a1 (of_decide_eq_true (by first | (with_reducible assumption) | assumption)) (of_decide_eq_true (by first | (with_reducible assumption) | assumption)) HC0.out
                      rw [← NY9_.out] at hcut17 hA17 hC17
                      have HR144 := Aside0.mk (Kd.C_of_reads (h1 := fun _ => rfl) (hA17 _ (Kd.reads_of_C HR0.out)))
                      have HC144 := Aside0.mk hC17
                      clear hA17 hC17 hi017 hsz17
                      obtain ⟨i018, hi018, _, hsz18, _⟩ := info_parts info5
                      obtain ⟨A18, hcut18, hA18, hC18⟩ := print_mid_of (P := Try.prog) (Value.int .u8) 0 22 5 .i64 .i64 Try.underlying22 hi018 hsz18 A17 (c0 - a1.toNat) y9_ 1 4 (by omega) (by first | omega | exact of_decide_eq_true (by first | (with_reducible assumption) | assumption)) (of_decide_eq_true (by first | (with_reducible assumption) | assumption)) HC144.out
                      have HR145 := Aside0.mk (Kd.C_of_reads (h1 := fun _ => rfl) (hA18 _ (Kd.reads_of_C HR144.out)))
                      have HC145 := Aside0.mk hC18
                      clear hA18 hC18 hi018 hsz18
                      go_upto_region 8 with (first | (go_at_call 51; (first | (with_reducible refine (impl_getBytes.calls kj2 _ _ ((y9_.take 4).drop 1) t146 _ ?side1 ?side2 A12.out).mono ?_) | (refine (calls_eq_ (by first | rfl | (simp only [List.length_drop, List.length_take, i64_w]; done) | (simp only [List.length_drop, List.length_take, i64_w]; rfl) | (simp only [List.length_drop, List.length_take]; rfl) | (rw [i64_w]; rfl) | (rw [HM_45.out]; done) | (rw [HM_45.out]; rfl) | (rw [HM_48.out]; done) | (rw [HM_48.out]; rfl)) (impl_getBytes.calls kj2 _ _ ((y9_.take 4).drop 1) t146 _ ?side1 ?side2 A12.out)).mono ?_)); (case side1 => repeat (first | exact (Kd.C_below HR145.out HB.out) | (with_reducible refine Kd.C_alloc ?_ _) | (with_reducible refine Kd.C_drewN ?_ _) | (with_reducible refine Kd.C_drew ?_))); (case side2 => exact HC145.out); rintro e w' ⟨rfl, ⟨nd, rfl⟩⟩; (try first | exact ⟨rfl, _, World.drewN_drewN _ _ _⟩ | exact ⟨rfl, _, Eq.trans (World.drewN_drewN _ _ _) (congrArg (World.drewN _) (Nat.add_assoc _ _ _))⟩); obtain ⟨i019, hi019, _, hsz19, _⟩ := info_parts info5; obtain ⟨A19, hcut19, hA19, hC19⟩ := print_mid_of (P := Try.prog) (Value.int .u8) 0 22 5 .i64 .i64 Try.underlying22 hi019 hsz19 A17 (c0 - a1.toNat) y9_ 4 7 (by omega) (by first | omega | exact of_decide_eq_true (by first | (with_reducible assumption) | assumption)) (of_decide_eq_true (by first | (with_reducible assumption) | assumption)) HC144.out; have HR147 := Aside0.mk (Kd.C_of_reads (h1 := fun _ => rfl) (hA19 _ (Kd.reads_of_C HR144.out))); have HC147 := Aside0.mk hC19; clear hA19 hC19 hi019 hsz19) | (go_at_call 51; (first | (with_reducible refine (impl_getBytes.calls kj2 _ _ ((y9_.take 7).drop 4) t148 _ ?side1 ?side2 A15.out).mono ?_) | (refine (calls_eq_ (by first | rfl | (simp only [List.length_drop, List.length_take, i64_w]; done) | (simp only [List.length_drop, List.length_take, i64_w]; rfl) | (simp only [List.length_drop, List.length_take]; rfl) | (rw [i64_w]; rfl) | (rw [HM_45.out]; done) | (rw [HM_45.out]; rfl) | (rw [HM_48.out]; done) | (rw [HM_48.out]; rfl)) (impl_getBytes.calls kj2 _ _ ((y9_.take 7).drop 4) t148 _ ?side1 ?side2 A15.out)).mono ?_)); (case side1 => repeat (first | exact (Kd.C_below HR147.out (by repeat (first | (with_reducible first | exact HB.out | apply below_alloc | apply pw_below_drewN | apply below_drew1) | exact HB.out))) | (with_reducible refine Kd.C_alloc ?_ _) | (with_reducible refine Kd.C_drewN ?_ _) | (with_reducible refine Kd.C_drew ?_))); (case side2 => exact HC147.out); rintro e w' ⟨rfl, ⟨nd, rfl⟩⟩; (try first | exact ⟨rfl, _, World.drewN_drewN _ _ _⟩ | exact ⟨rfl, _, Eq.trans (World.drewN_drewN _ _ _) (congrArg (World.drewN _) (Nat.add_assoc _ _ _))⟩)))
                      (obtain ⟨i019, hi019, _, hsz19, _⟩ := info_parts info5; obtain ⟨A19, hcut19, hA19, hC19⟩ := print_mid_of (P := Try.prog) (Value.int .u8) 0 22 5 .i64 .i64 Try.underlying22 hi019 hsz19 A17 (c0 - a1.toNat) y9_ 4 7 (by omega) (by first | omega | exact of_decide_eq_true (by first | (with_reducible assumption) | assumption)) (of_decide_eq_true (by first | (with_reducible assumption) | assumption)) HC144.out; have HR147 := Aside0.mk (Kd.C_of_reads (h1 := fun _ => rfl) (hA19 _ (Kd.reads_of_C HR144.out))); have HC147 := Aside0.mk hC19; clear hA19 hC19 hi019 hsz19)
                      have hcut19_b := hcut19
                      (try simp only [← i64_w] at hcut19_b)
                      repeat (go_quiet (first | (go_at_call 51; (first | (with_reducible refine (impl_getBytes.calls kj2 _ _ ((y9_.take 4).drop 1) t146 _ ?side1 ?side2 A12.out).mono ?_) | (refine (calls_eq_ (by first | rfl | (simp only [List.length_drop, List.length_take, i64_w]; done) | (simp only [List.length_drop, List.length_take, i64_w]; rfl) | (simp only [List.length_drop, List.length_take]; rfl) | (rw [i64_w]; rfl) | (rw [HM_45.out]; done) | (rw [HM_45.out]; rfl) | (rw [HM_48.out]; done) | (rw [HM_48.out]; rfl)) (impl_getBytes.calls kj2 _ _ ((y9_.take 4).drop 1) t146 _ ?side1 ?side2 A12.out)).mono ?_)); (case side1 => repeat (first | exact (Kd.C_below HR145.out HB.out) | (with_reducible refine Kd.C_alloc ?_ _) | (with_reducible refine Kd.C_drewN ?_ _) | (with_reducible refine Kd.C_drew ?_))); (case side2 => exact HC145.out); rintro e w' ⟨rfl, ⟨nd, rfl⟩⟩; (try first | exact ⟨rfl, _, World.drewN_drewN _ _ _⟩ | exact ⟨rfl, _, Eq.trans (World.drewN_drewN _ _ _) (congrArg (World.drewN _) (Nat.add_assoc _ _ _))⟩)) | (go_at_call 51; (first | (with_reducible refine (impl_getBytes.calls kj2 _ _ ((y9_.take 7).drop 4) t148 _ ?side1 ?side2 A15.out).mono ?_) | (refine (calls_eq_ (by first | rfl | (simp only [List.length_drop, List.length_take, i64_w]; done) | (simp only [List.length_drop, List.length_take, i64_w]; rfl) | (simp only [List.length_drop, List.length_take]; rfl) | (rw [i64_w]; rfl) | (rw [HM_45.out]; done) | (rw [HM_45.out]; rfl) | (rw [HM_48.out]; done) | (rw [HM_48.out]; rfl)) (impl_getBytes.calls kj2 _ _ ((y9_.take 7).drop 4) t148 _ ?side1 ?side2 A15.out)).mono ?_)); (case side1 => repeat (first | exact (Kd.C_below HR147.out (by repeat (first | (with_reducible first | exact HB.out | apply below_alloc | apply pw_below_drewN | apply below_drew1) | exact HB.out))) | (with_reducible refine Kd.C_alloc ?_ _) | (with_reducible refine Kd.C_drewN ?_ _) | (with_reducible refine Kd.C_drew ?_))); (case side2 => exact HC147.out); rintro e w' ⟨rfl, ⟨nd, rfl⟩⟩; (try first | exact ⟨rfl, _, World.drewN_drewN _ _ _⟩ | exact ⟨rfl, _, Eq.trans (World.drewN_drewN _ _ _) (congrArg (World.drewN _) (Nat.add_assoc _ _ _))⟩))); go_upto_region 8 with (first | (go_at_call 51; (first | (with_reducible refine (impl_getBytes.calls kj2 _ _ ((y9_.take 4).drop 1) t146 _ ?side1 ?side2 A12.out).mono ?_) | (refine (calls_eq_ (by first | rfl | (simp only [List.length_drop, List.length_take, i64_w]; done) | (simp only [List.length_drop, List.length_take, i64_w]; rfl) | (simp only [List.length_drop, List.length_take]; rfl) | (rw [i64_w]; rfl) | (rw [HM_45.out]; done) | (rw [HM_45.out]; rfl) | (rw [HM_48.out]; done) | (rw [HM_48.out]; rfl)) (impl_getBytes.calls kj2 _ _ ((y9_.take 4).drop 1) t146 _ ?side1 ?side2 A12.out)).mono ?_)); (case side1 => repeat (first | exact (Kd.C_below HR145.out HB.out) | (with_reducible refine Kd.C_alloc ?_ _) | (with_reducible refine Kd.C_drewN ?_ _) | (with_reducible refine Kd.C_drew ?_))); (case side2 => exact HC145.out); rintro e w' ⟨rfl, ⟨nd, rfl⟩⟩; (try first | exact ⟨rfl, _, World.drewN_drewN _ _ _⟩ | exact ⟨rfl, _, Eq.trans (World.drewN_drewN _ _ _) (congrArg (World.drewN _) (Nat.add_assoc _ _ _))⟩)) | (go_at_call 51; (first | (with_reducible refine (impl_getBytes.calls kj2 _ _ ((y9_.take 7).drop 4) t148 _ ?side1 ?side2 A15.out).mono ?_) | (refine (calls_eq_ (by first | rfl | (simp only [List.length_drop, List.length_take, i64_w]; done) | (simp only [List.length_drop, List.length_take, i64_w]; rfl) | (simp only [List.length_drop, List.length_take]; rfl) | (rw [i64_w]; rfl) | (rw [HM_45.out]; done) | (rw [HM_45.out]; rfl) | (rw [HM_48.out]; done) | (rw [HM_48.out]; rfl)) (impl_getBytes.calls kj2 _ _ ((y9_.take 7).drop 4) t148 _ ?side1 ?side2 A15.out)).mono ?_)); (case side1 => repeat (first | exact (Kd.C_below HR147.out (by repeat (first | (with_reducible first | exact HB.out | apply below_alloc | apply pw_below_drewN | apply below_drew1) | exact HB.out))) | (with_reducible refine Kd.C_alloc ?_ _) | (with_reducible refine Kd.C_drewN ?_ _) | (with_reducible refine Kd.C_drew ?_))); (case side2 => exact HC147.out); rintro e w' ⟨rfl, ⟨nd, rfl⟩⟩; (try first | exact ⟨rfl, _, World.drewN_drewN _ _ _⟩ | exact ⟨rfl, _, Eq.trans (World.drewN_drewN _ _ _) (congrArg (World.drewN _) (Nat.add_assoc _ _ _))⟩))))
                      (try simp only [Act.put, List.setIfInBounds_toArray, List.set_cons_zero, List.set_cons_succ])
                      go_cut [52] (fun v52 wc => ∃ (kq : Nat) (x52_15 : Bool), v52 = .bool x52_15 ∧ Aside0 (impl_FrameRead.j1 kq a1 y9_ t146 t148 x52_15 = some (r1, r2, r3, r4)) ∧ Aside0 (kq ≤ kj2) ∧ Aside0 (Below w.heap.size w wc))
                      case first =>
                        have H := HC16.out
                        clear HC16
                        by_cases c20 : 0 < (y9_.length : Int)
                        · rw [if_pos c20] at H
                          have c20b0 : decide (0 < (y9_.length : Int)) = true := decide_eq_true c20
                          have c20b1 : decide (0 < y9_.length) = true := decide_eq_true (by omega)
                          clear c20
                          (first | rw [c20b0] | (simp only [i64_w, i32_w]; rw [c20b0]) | skip)
                          by_cases c21 : (rd y9_ 0) = 82
                          · rw [if_pos c21] at H
                            have c21b0 : ((rd y9_ 0) == 82) = true := beq_iff_eq.mpr c21
                            have c21b1 : ((rd y9_ 0) != 82) = false := bne_eq_false_iff_eq.mpr c21
                            clear c21
                            by_cases c22 : 7 ≤ 11
                            · rw [if_pos c22] at H
                              have c22b0 := eq_true c22
                              have c22b1 : decide (7 ≤ 11) = true := decide_eq_true c22
                              clear c22
                              by_cases c23 : 11 ≤ (y9_.length : Int)
                              · rw [if_pos c23] at H
                                have c23b0 := eq_true c23
                                have c23b1 : decide (11 ≤ (y9_.length : Int)) = true := decide_eq_true c23
                                clear c23
                                replace H := Option.bind_eq_some_iff.mp H
                                obtain ⟨t151, A240, H⟩ := H
                                replace H : ((impl_Crc.f kj2 (y9_.take 7)).bind fun t153 => (if t151 = t153 then (if t146 > 100000 then (impl_FrameRead.j1 kj2 a1 y9_ t146 t148 true) else (impl_FrameRead.j1 kj2 a1 y9_ t146 t148 (decide (t148 > 4000)))) else (impl_FrameRead.j1 kj2 a1 y9_ t146 t148 true))) = some (r1, r2, r3, r4) := H
                                have A24 := Aside0.mk A240
                                clear A240
                                have c25b0 := eq_true (of_decide_eq_true (by first | (with_reducible assumption) | assumption) : 7 ≤ (y9_.length : Int))
                                replace H := Option.bind_eq_some_iff.mp H
                                obtain ⟨t153, A260, H⟩ := H
                                replace H : (if t151 = t153 then (if t146 > 100000 then (impl_FrameRead.j1 kj2 a1 y9_ t146 t148 true) else (impl_FrameRead.j1 kj2 a1 y9_ t146 t148 (decide (t148 > 4000)))) else (impl_FrameRead.j1 kj2 a1 y9_ t146 t148 true)) = some (r1, r2, r3, r4) := H
                                have A26 := Aside0.mk A260
                                clear A260
                                by_cases c27 : t151 = t153
                                · rw [if_pos c27] at H
                                  have c27b0 : (t151 == t153) = true := beq_iff_eq.mpr c27
                                  have c27b1 : (t151 != t153) = false := bne_eq_false_iff_eq.mpr c27
                                  clear c27
                                  by_cases c28 : t146 > 100000
                                  · rw [if_pos c28] at H
                                    have c28b0 : decide (100000 < t146) = true := decide_eq_true c28
                                    clear c28
                                    have H' := Aside0.mk H
                                    clear H
                                    have p149 : 0 ≤ (0 : Int) := (by omega)
                                    have q149 : 0 < (y9_.length : Int) := of_decide_eq_true (by first | (with_reducible assumption) | assumption)
                                    obtain ⟨ad149, e149, hx149_0⟩ := Kd.at_int HR144.out 0 p149 q149
                                    cases e149
                                    have qi149 : (0 < y9_.length) = True := eq_true (by omega)
                                    (try rw [show ((0 : Int)).toNat = 0 from rfl] at hx149_0)
                                    (try rw [Addr.add_zero'] at hx149_0)
                                    replace hx149_0 := (HB.out.cell (World.block_lt_of_cell? w _ hx149_0)).trans hx149_0
                                    replace p149 := eq_true p149
                                    replace q149 := eq_true q149
                                    obtain ⟨i029, hi029, _, hsz29, _⟩ := info_parts info5
                                    obtain ⟨A29, hcut29, hA29, hC29⟩ := print_mid_of (P := Try.prog) (Value.int .u8) 0 22 5 .i64 .i64 Try.underlying22 hi029 hsz29 (some ad149) (c0 - a1.toNat) y9_ 7 11 (by omega) (by first | omega | exact of_decide_eq_true (by first | (with_reducible assumption) | assumption)) (of_decide_eq_true (by first | (with_reducible assumption) | assumption)) HC144.out
                                    have HR150 := Aside0.mk (Kd.C_of_reads (h1 := fun _ => rfl) (hA29 _ (Kd.reads_of_C HR144.out)))
                                    have HC150 := Aside0.mk hC29
                                    clear hA29 hC29 hi029 hsz29
                                    go_wp2_with (first | (go_at_call 51; (first | (with_reducible refine (impl_getBytes.calls kj2 _ _ ((y9_.take 11).drop 7) t151 _ ?side1 ?side2 A24.out).mono ?_) | (refine (calls_eq_ (by first | rfl | (simp only [List.length_drop, List.length_take, i64_w]; done) | (simp only [List.length_drop, List.length_take, i64_w]; rfl) | (simp only [List.length_drop, List.length_take]; rfl) | (rw [i64_w]; rfl) | (rw [HM_45.out]; done) | (rw [HM_45.out]; rfl) | (rw [HM_48.out]; done) | (rw [HM_48.out]; rfl)) (impl_getBytes.calls kj2 _ _ ((y9_.take 11).drop 7) t151 _ ?side1 ?side2 A24.out)).mono ?_)); (case side1 => repeat (first | exact (Kd.C_below HR150.out HB.out) | (with_reducible refine Kd.C_alloc ?_ _) | (with_reducible refine Kd.C_drewN ?_ _) | (with_reducible refine Kd.C_drew ?_))); (case side2 => exact HC150.out); rintro e w' ⟨rfl, ⟨nd, rfl⟩⟩; (try first | exact ⟨rfl, _, World.drewN_drewN _ _ _⟩ | exact ⟨rfl, _, Eq.trans (World.drewN_drewN _ _ _) (congrArg (World.drewN _) (Nat.add_assoc _ _ _))⟩); obtain ⟨i030, hi030, _, hsz30, _⟩ := info_parts info5; obtain ⟨hcut30, hA30, hC30⟩ := print_take_of (P := Try.prog) (Value.int .u8) 0 22 5 .i64 Try.underlying22 hi030 hsz30 (some ad149) (c0 - a1.toNat) y9_ 7 (by omega) (of_decide_eq_true (by first | (with_reducible assumption) | assumption)) HC144.out; have HR152 := Aside0.mk (Kd.C_of_reads (h1 := fun _ => rfl) (hA30 _ (Kd.reads_of_C HR144.out))); have HC152 := Aside0.mk hC30; clear hA30 hC30 hi030 hsz30) | (go_at_call 39; (first | (with_reducible refine (impl_Crc.calls kj2 _ _ (y9_.take 7) t153 _ ?side1 ?side2 A26.out).mono ?_) | (refine (calls_eq_ (by first | rfl | (simp only [List.length_drop, List.length_take, i64_w]; done) | (simp only [List.length_drop, List.length_take, i64_w]; rfl) | (simp only [List.length_drop, List.length_take]; rfl) | (rw [i64_w]; rfl)) (impl_Crc.calls kj2 _ _ (y9_.take 7) t153 _ ?side1 ?side2 A26.out)).mono ?_)); (case side1 => repeat (first | exact (Kd.C_below HR152.out (by repeat (first | (with_reducible first | exact HB.out | apply below_alloc | apply pw_below_drewN | apply below_drew1) | exact HB.out))) | (with_reducible refine Kd.C_alloc ?_ _) | (with_reducible refine Kd.C_drewN ?_ _) | (with_reducible refine Kd.C_drew ?_))); (case side2 => exact HC152.out); rintro e w' ⟨rfl, ⟨nd, rfl⟩⟩; (try first | exact ⟨rfl, _, World.drewN_drewN _ _ _⟩ | exact ⟨rfl, _, Eq.trans (World.drewN_drewN _ _ _) (congrArg (World.drewN _) (Nat.add_assoc _ _ _))⟩)))
                                    repeat (go_quiet (first | (go_at_call 51; (first | (with_reducible refine (impl_getBytes.calls kj2 _ _ ((y9_.take 11).drop 7) t151 _ ?side1 ?side2 A24.out).mono ?_) | (refine (calls_eq_ (by first | rfl | (simp only [List.length_drop, List.length_take, i64_w]; done) | (simp only [List.length_drop, List.length_take, i64_w]; rfl) | (simp only [List.length_drop, List.length_take]; rfl) | (rw [i64_w]; rfl) | (rw [HM_45.out]; done) | (rw [HM_45.out]; rfl) | (rw [HM_48.out]; done) | (rw [HM_48.out]; rfl)) (impl_getBytes.calls kj2 _ _ ((y9_.take 11).drop 7) t151 _ ?side1 ?side2 A24.out)).mono ?_)); (case side1 => repeat (first | exact (Kd.C_below HR150.out HB.out) | (with_reducible refine Kd.C_alloc ?_ _) | (with_reducible refine Kd.C_drewN ?_ _) | (with_reducible refine Kd.C_drew ?_))); (case side2 => exact HC150.out); rintro e w' ⟨rfl, ⟨nd, rfl⟩⟩; (try first | exact ⟨rfl, _, World.drewN_drewN _ _ _⟩ | exact ⟨rfl, _, Eq.trans (World.drewN_drewN _ _ _) (congrArg (World.drewN _) (Nat.add_assoc _ _ _))⟩); obtain ⟨i030, hi030, _, hsz30, _⟩ := info_parts info5; obtain ⟨hcut30, hA30, hC30⟩ := print_take_of (P := Try.prog) (Value.int .u8) 0 22 5 .i64 Try.underlying22 hi030 hsz30 (some ad149) (c0 - a1.toNat) y9_ 7 (by omega) (of_decide_eq_true (by first | (with_reducible assumption) | assumption)) HC144.out; have HR152 := Aside0.mk (Kd.C_of_reads (h1 := fun _ => rfl) (hA30 _ (Kd.reads_of_C HR144.out))); have HC152 := Aside0.mk hC30; clear hA30 hC30 hi030 hsz30) | (go_at_call 39; (first | (with_reducible refine (impl_Crc.calls kj2 _ _ (y9_.take 7) t153 _ ?side1 ?side2 A26.out).mono ?_) | (refine (calls_eq_ (by first | rfl | (simp only [List.length_drop, List.length_take, i64_w]; done) | (simp only [List.length_drop, List.length_take, i64_w]; rfl) | (simp only [List.length_drop, List.length_take]; rfl) | (rw [i64_w]; rfl)) (impl_Crc.calls kj2 _ _ (y9_.take 7) t153 _ ?side1 ?side2 A26.out)).mono ?_)); (case side1 => repeat (first | exact (Kd.C_below HR152.out (by repeat (first | (with_reducible first | exact HB.out | apply below_alloc | apply pw_below_drewN | apply below_drew1) | exact HB.out))) | (with_reducible refine Kd.C_alloc ?_ _) | (with_reducible refine Kd.C_drewN ?_ _) | (with_reducible refine Kd.C_drew ?_))); (case side2 => exact HC152.out); rintro e w' ⟨rfl, ⟨nd, rfl⟩⟩; (try first | exact ⟨rfl, _, World.drewN_drewN _ _ _⟩ | exact ⟨rfl, _, Eq.trans (World.drewN_drewN _ _ _) (congrArg (World.drewN _) (Nat.add_assoc _ _ _))⟩))); try go_wp2_with (first | (go_at_call 51; (first | (with_reducible refine (impl_getBytes.calls kj2 _ _ ((y9_.take 11).drop 7) t151 _ ?side1 ?side2 A24.out).mono ?_) | (refine (calls_eq_ (by first | rfl | (simp only [List.length_drop, List.length_take, i64_w]; done) | (simp only [List.length_drop, List.length_take, i64_w]; rfl) | (simp only [List.length_drop, List.length_take]; rfl) | (rw [i64_w]; rfl) | (rw [HM_45.out]; done) | (rw [HM_45.out]; rfl) | (rw [HM_48.out]; done) | (rw [HM_48.out]; rfl)) (impl_getBytes.calls kj2 _ _ ((y9_.take 11).drop 7) t151 _ ?side1 ?side2 A24.out)).mono ?_)); (case side1 => repeat (first | exact (Kd.C_below HR150.out HB.out) | (with_reducible refine Kd.C_alloc ?_ _) | (with_reducible refine Kd.C_drewN ?_ _) | (with_reducible refine Kd.C_drew ?_))); (case side2 => exact HC150.out); rintro e w' ⟨rfl, ⟨nd, rfl⟩⟩; (try first | exact ⟨rfl, _, World.drewN_drewN _ _ _⟩ | exact ⟨rfl, _, Eq.trans (World.drewN_drewN _ _ _) (congrArg (World.drewN _) (Nat.add_assoc _ _ _))⟩); obtain ⟨i030, hi030, _, hsz30, _⟩ := info_parts info5; obtain ⟨hcut30, hA30, hC30⟩ := print_take_of (P := Try.prog) (Value.int .u8) 0 22 5 .i64 Try.underlying22 hi030 hsz30 (some ad149) (c0 - a1.toNat) y9_ 7 (by omega) (of_decide_eq_true (by first | (with_reducible assumption) | assumption)) HC144.out; have HR152 := Aside0.mk (Kd.C_of_reads (h1 := fun _ => rfl) (hA30 _ (Kd.reads_of_C HR144.out))); have HC152 := Aside0.mk hC30; clear hA30 hC30 hi030 hsz30) | (go_at_call 39; (first | (with_reducible refine (impl_Crc.calls kj2 _ _ (y9_.take 7) t153 _ ?side1 ?side2 A26.out).mono ?_) | (refine (calls_eq_ (by first | rfl | (simp only [List.length_drop, List.length_take, i64_w]; done) | (simp only [List.length_drop, List.length_take, i64_w]; rfl) | (simp only [List.length_drop, List.length_take]; rfl) | (rw [i64_w]; rfl)) (impl_Crc.calls kj2 _ _ (y9_.take 7) t153 _ ?side1 ?side2 A26.out)).mono ?_)); (case side1 => repeat (first | exact (Kd.C_below HR152.out (by repeat (first | (with_reducible first | exact HB.out | apply below_alloc | apply pw_below_drewN | apply below_drew1) | exact HB.out))) | (with_reducible refine Kd.C_alloc ?_ _) | (with_reducible refine Kd.C_drewN ?_ _) | (with_reducible refine Kd.C_drew ?_))); (case side2 => exact HC152.out); rintro e w' ⟨rfl, ⟨nd, rfl⟩⟩; (try first | exact ⟨rfl, _, World.drewN_drewN _ _ _⟩ | exact ⟨rfl, _, Eq.trans (World.drewN_drewN _ _ _) (congrArg (World.drewN _) (Nat.add_assoc _ _ _))⟩))))
                                    go_meet
                                    case rel => exact ⟨_, (true), (by first | rfl | (simp; done) | (simp [*]; done)), H', ⟨by have := HJ2.out; first | omega | exact Nat.le_refl _⟩, ⟨by repeat (first | (with_reducible first | exact HB.out | apply below_alloc | apply pw_below_drewN | apply below_drew1) | exact HB.out)⟩⟩
                                  · rw [if_neg c28] at H
                                    have c28b0 : decide (100000 < t146) = false := decide_eq_false c28
                                    clear c28
                                    have H' := Aside0.mk H
                                    clear H
                                    have p149 : 0 ≤ (0 : Int) := (by omega)
                                    have q149 : 0 < (y9_.length : Int) := of_decide_eq_true (by first | (with_reducible assumption) | assumption)
                                    obtain ⟨ad149, e149, hx149_0⟩ := Kd.at_int HR144.out 0 p149 q149
                                    cases e149
                                    have qi149 : (0 < y9_.length) = True := eq_true (by omega)
                                    (try rw [show ((0 : Int)).toNat = 0 from rfl] at hx149_0)
                                    (try rw [Addr.add_zero'] at hx149_0)
                                    replace hx149_0 := (HB.out.cell (World.block_lt_of_cell? w _ hx149_0)).trans hx149_0
                                    replace p149 := eq_true p149
                                    replace q149 := eq_true q149
                                    obtain ⟨i031, hi031, _, hsz31, _⟩ := info_parts info5
                                    obtain ⟨A31, hcut31, hA31, hC31⟩ := print_mid_of (P := Try.prog) (Value.int .u8) 0 22 5 .i64 .i64 Try.underlying22 hi031 hsz31 (some ad149) (c0 - a1.toNat) y9_ 7 11 (by omega) (by first | omega | exact of_decide_eq_true (by first | (with_reducible assumption) | assumption)) (of_decide_eq_true (by first | (with_reducible assumption) | assumption)) HC144.out
                                    have HR150 := Aside0.mk (Kd.C_of_reads (h1 := fun _ => rfl) (hA31 _ (Kd.reads_of_C HR144.out)))
                                    have HC150 := Aside0.mk hC31
                                    clear hA31 hC31 hi031 hsz31
                                    go_wp2_with (first | (go_at_call 51; (first | (with_reducible refine (impl_getBytes.calls kj2 _ _ ((y9_.take 11).drop 7) t151 _ ?side1 ?side2 A24.out).mono ?_) | (refine (calls_eq_ (by first | rfl | (simp only [List.length_drop, List.length_take, i64_w]; done) | (simp only [List.length_drop, List.length_take, i64_w]; rfl) | (simp only [List.length_drop, List.length_take]; rfl) | (rw [i64_w]; rfl) | (rw [HM_45.out]; done) | (rw [HM_45.out]; rfl) | (rw [HM_48.out]; done) | (rw [HM_48.out]; rfl)) (impl_getBytes.calls kj2 _ _ ((y9_.take 11).drop 7) t151 _ ?side1 ?side2 A24.out)).mono ?_)); (case side1 => repeat (first | exact (Kd.C_below HR150.out HB.out) | (with_reducible refine Kd.C_alloc ?_ _) | (with_reducible refine Kd.C_drewN ?_ _) | (with_reducible refine Kd.C_drew ?_))); (case side2 => exact HC150.out); rintro e w' ⟨rfl, ⟨nd, rfl⟩⟩; (try first | exact ⟨rfl, _, World.drewN_drewN _ _ _⟩ | exact ⟨rfl, _, Eq.trans (World.drewN_drewN _ _ _) (congrArg (World.drewN _) (Nat.add_assoc _ _ _))⟩); obtain ⟨i032, hi032, _, hsz32, _⟩ := info_parts info5; obtain ⟨hcut32, hA32, hC32⟩ := print_take_of (P := Try.prog) (Value.int .u8) 0 22 5 .i64 Try.underlying22 hi032 hsz32 (some ad149) (c0 - a1.toNat) y9_ 7 (by omega) (of_decide_eq_true (by first | (with_reducible assumption) | assumption)) HC144.out; have HR152 := Aside0.mk (Kd.C_of_reads (h1 := fun _ => rfl) (hA32 _ (Kd.reads_of_C HR144.out))); have HC152 := Aside0.mk hC32; clear hA32 hC32 hi032 hsz32) | (go_at_call 39; (first | (with_reducible refine (impl_Crc.calls kj2 _ _ (y9_.take 7) t153 _ ?side1 ?side2 A26.out).mono ?_) | (refine (calls_eq_ (by first | rfl | (simp only [List.length_drop, List.length_take, i64_w]; done) | (simp only [List.length_drop, List.length_take, i64_w]; rfl) | (simp only [List.length_drop, List.length_take]; rfl) | (rw [i64_w]; rfl)) (impl_Crc.calls kj2 _ _ (y9_.take 7) t153 _ ?side1 ?side2 A26.out)).mono ?_)); (case side1 => repeat (first | exact (Kd.C_below HR152.out (by repeat (first | (with_reducible first | exact HB.out | apply below_alloc | apply pw_below_drewN | apply below_drew1) | exact HB.out))) | (with_reducible refine Kd.C_alloc ?_ _) | (with_reducible refine Kd.C_drewN ?_ _) | (with_reducible refine Kd.C_drew ?_))); (case side2 => exact HC152.out); rintro e w' ⟨rfl, ⟨nd, rfl⟩⟩; (try first | exact ⟨rfl, _, World.drewN_drewN _ _ _⟩ | exact ⟨rfl, _, Eq.trans (World.drewN_drewN _ _ _) (congrArg (World.drewN _) (Nat.add_assoc _ _ _))⟩)))
                                    repeat (go_quiet (first | (go_at_call 51; (first | (with_reducible refine (impl_getBytes.calls kj2 _ _ ((y9_.take 11).drop 7) t151 _ ?side1 ?side2 A24.out).mono ?_) | (refine (calls_eq_ (by first | rfl | (simp only [List.length_drop, List.length_take, i64_w]; done) | (simp only [List.length_drop, List.length_take, i64_w]; rfl) | (simp only [List.length_drop, List.length_take]; rfl) | (rw [i64_w]; rfl) | (rw [HM_45.out]; done) | (rw [HM_45.out]; rfl) | (rw [HM_48.out]; done) | (rw [HM_48.out]; rfl)) (impl_getBytes.calls kj2 _ _ ((y9_.take 11).drop 7) t151 _ ?side1 ?side2 A24.out)).mono ?_)); (case side1 => repeat (first | exact (Kd.C_below HR150.out HB.out) | (with_reducible refine Kd.C_alloc ?_ _) | (with_reducible refine Kd.C_drewN ?_ _) | (with_reducible refine Kd.C_drew ?_))); (case side2 => exact HC150.out); rintro e w' ⟨rfl, ⟨nd, rfl⟩⟩; (try first | exact ⟨rfl, _, World.drewN_drewN _ _ _⟩ | exact ⟨rfl, _, Eq.trans (World.drewN_drewN _ _ _) (congrArg (World.drewN _) (Nat.add_assoc _ _ _))⟩); obtain ⟨i032, hi032, _, hsz32, _⟩ := info_parts info5; obtain ⟨hcut32, hA32, hC32⟩ := print_take_of (P := Try.prog) (Value.int .u8) 0 22 5 .i64 Try.underlying22 hi032 hsz32 (some ad149) (c0 - a1.toNat) y9_ 7 (by omega) (of_decide_eq_true (by first | (with_reducible assumption) | assumption)) HC144.out; have HR152 := Aside0.mk (Kd.C_of_reads (h1 := fun _ => rfl) (hA32 _ (Kd.reads_of_C HR144.out))); have HC152 := Aside0.mk hC32; clear hA32 hC32 hi032 hsz32) | (go_at_call 39; (first | (with_reducible refine (impl_Crc.calls kj2 _ _ (y9_.take 7) t153 _ ?side1 ?side2 A26.out).mono ?_) | (refine (calls_eq_ (by first | rfl | (simp only [List.length_drop, List.length_take, i64_w]; done) | (simp only [List.length_drop, List.length_take, i64_w]; rfl) | (simp only [List.length_drop, List.length_take]; rfl) | (rw [i64_w]; rfl)) (impl_Crc.calls kj2 _ _ (y9_.take 7) t153 _ ?side1 ?side2 A26.out)).mono ?_)); (case side1 => repeat (first | exact (Kd.C_below HR152.out (by repeat (first | (with_reducible first | exact HB.out | apply below_alloc | apply pw_below_drewN | apply below_drew1) | exact HB.out))) | (with_reducible refine Kd.C_alloc ?_ _) | (with_reducible refine Kd.C_drewN ?_ _) | (with_reducible refine Kd.C_drew ?_))); (case side2 => exact HC152.out); rintro e w' ⟨rfl, ⟨nd, rfl⟩⟩; (try first | exact ⟨rfl, _, World.drewN_drewN _ _ _⟩ | exact ⟨rfl, _, Eq.trans (World.drewN_drewN _ _ _) (congrArg (World.drewN _) (Nat.add_assoc _ _ _))⟩))); try go_wp2_with (first | (go_at_call 51; (first | (with_reducible refine (impl_getBytes.calls kj2 _ _ ((y9_.take 11).drop 7) t151 _ ?side1 ?side2 A24.out).mono ?_) | (refine (calls_eq_ (by first | rfl | (simp only [List.length_drop, List.length_take, i64_w]; done) | (simp only [List.length_drop, List.length_take, i64_w]; rfl) | (simp only [List.length_drop, List.length_take]; rfl) | (rw [i64_w]; rfl) | (rw [HM_45.out]; done) | (rw [HM_45.out]; rfl) | (rw [HM_48.out]; done) | (rw [HM_48.out]; rfl)) (impl_getBytes.calls kj2 _ _ ((y9_.take 11).drop 7) t151 _ ?side1 ?side2 A24.out)).mono ?_)); (case side1 => repeat (first | exact (Kd.C_below HR150.out HB.out) | (with_reducible refine Kd.C_alloc ?_ _) | (with_reducible refine Kd.C_drewN ?_ _) | (with_reducible refine Kd.C_drew ?_))); (case side2 => exact HC150.out); rintro e w' ⟨rfl, ⟨nd, rfl⟩⟩; (try first | exact ⟨rfl, _, World.drewN_drewN _ _ _⟩ | exact ⟨rfl, _, Eq.trans (World.drewN_drewN _ _ _) (congrArg (World.drewN _) (Nat.add_assoc _ _ _))⟩); obtain ⟨i032, hi032, _, hsz32, _⟩ := info_parts info5; obtain ⟨hcut32, hA32, hC32⟩ := print_take_of (P := Try.prog) (Value.int .u8) 0 22 5 .i64 Try.underlying22 hi032 hsz32 (some ad149) (c0 - a1.toNat) y9_ 7 (by omega) (of_decide_eq_true (by first | (with_reducible assumption) | assumption)) HC144.out; have HR152 := Aside0.mk (Kd.C_of_reads (h1 := fun _ => rfl) (hA32 _ (Kd.reads_of_C HR144.out))); have HC152 := Aside0.mk hC32; clear hA32 hC32 hi032 hsz32) | (go_at_call 39; (first | (with_reducible refine (impl_Crc.calls kj2 _ _ (y9_.take 7) t153 _ ?side1 ?side2 A26.out).mono ?_) | (refine (calls_eq_ (by first | rfl | (simp only [List.length_drop, List.length_take, i64_w]; done) | (simp only [List.length_drop, List.length_take, i64_w]; rfl) | (simp only [List.length_drop, List.length_take]; rfl) | (rw [i64_w]; rfl)) (impl_Crc.calls kj2 _ _ (y9_.take 7) t153 _ ?side1 ?side2 A26.out)).mono ?_)); (case side1 => repeat (first | exact (Kd.C_below HR152.out (by repeat (first | (with_reducible first | exact HB.out | apply below_alloc | apply pw_below_drewN | apply below_drew1) | exact HB.out))) | (with_reducible refine Kd.C_alloc ?_ _) | (with_reducible refine Kd.C_drewN ?_ _) | (with_reducible refine Kd.C_drew ?_))); (case side2 => exact HC152.out); rintro e w' ⟨rfl, ⟨nd, rfl⟩⟩; (try first | exact ⟨rfl, _, World.drewN_drewN _ _ _⟩ | exact ⟨rfl, _, Eq.trans (World.drewN_drewN _ _ _) (congrArg (World.drewN _) (Nat.add_assoc _ _ _))⟩))))
                                    go_meet
                                    case rel => exact ⟨_, (decide (t148 > 4000)), (by first | rfl | (simp; done) | (simp [*]; done)), H', ⟨by have := HJ2.out; first | omega | exact Nat.le_refl _⟩, ⟨by repeat (first | (with_reducible first | exact HB.out | apply below_alloc | apply pw_below_drewN | apply below_drew1) | exact HB.out)⟩⟩
                                · rw [if_neg c27] at H
                                  have c27b0 : (t151 == t153) = false := beq_eq_false_iff_ne.mpr c27
                                  have c27b1 : (t151 != t153) = true := bne_iff_ne.mpr c27
                                  have H' := Aside0.mk H
                                  clear H
                                  have p149 : 0 ≤ (0 : Int) := (by omega)
                                  have q149 : 0 < (y9_.length : Int) := of_decide_eq_true (by first | (with_reducible assumption) | assumption)
                                  obtain ⟨ad149, e149, hx149_0⟩ := Kd.at_int HR144.out 0 p149 q149
                                  cases e149
                                  have qi149 : (0 < y9_.length) = True := eq_true (by omega)
                                  (try rw [show ((0 : Int)).toNat = 0 from rfl] at hx149_0)
                                  (try rw [Addr.add_zero'] at hx149_0)
                                  replace hx149_0 := (HB.out.cell (World.block_lt_of_cell? w _ hx149_0)).trans hx149_0
                                  replace p149 := eq_true p149
                                  replace q149 := eq_true q149
                                  obtain ⟨i033, hi033, _, hsz33, _⟩ := info_parts info5
                                  obtain ⟨A33, hcut33, hA33, hC33⟩ := print_mid_of (P := Try.prog) (Value.int .u8) 0 22 5 .i64 .i64 Try.underlying22 hi033 hsz33 (some ad149) (c0 - a1.toNat) y9_ 7 11 (by omega) (by first | omega | exact of_decide_eq_true (by first | (with_reducible assumption) | assumption)) (of_decide_eq_true (by first | (with_reducible assumption) | assumption)) HC144.out
                                  have HR150 := Aside0.mk (Kd.C_of_reads (h1 := fun _ => rfl) (hA33 _ (Kd.reads_of_C HR144.out)))
                                  have HC150 := Aside0.mk hC33
                                  clear hA33 hC33 hi033 hsz33
                                  go_wp2_with (first | (go_at_call 51; (first | (with_reducible refine (impl_getBytes.calls kj2 _ _ ((y9_.take 11).drop 7) t151 _ ?side1 ?side2 A24.out).mono ?_) | (refine (calls_eq_ (by first | rfl | (simp only [List.length_drop, List.length_take, i64_w]; done) | (simp only [List.length_drop, List.length_take, i64_w]; rfl) | (simp only [List.length_drop, List.length_take]; rfl) | (rw [i64_w]; rfl) | (rw [HM_45.out]; done) | (rw [HM_45.out]; rfl) | (rw [HM_48.out]; done) | (rw [HM_48.out]; rfl)) (impl_getBytes.calls kj2 _ _ ((y9_.take 11).drop 7) t151 _ ?side1 ?side2 A24.out)).mono ?_)); (case side1 => repeat (first | exact (Kd.C_below HR150.out HB.out) | (with_reducible refine Kd.C_alloc ?_ _) | (with_reducible refine Kd.C_drewN ?_ _) | (with_reducible refine Kd.C_drew ?_))); (case side2 => exact HC150.out); rintro e w' ⟨rfl, ⟨nd, rfl⟩⟩; (try first | exact ⟨rfl, _, World.drewN_drewN _ _ _⟩ | exact ⟨rfl, _, Eq.trans (World.drewN_drewN _ _ _) (congrArg (World.drewN _) (Nat.add_assoc _ _ _))⟩); obtain ⟨i034, hi034, _, hsz34, _⟩ := info_parts info5; obtain ⟨hcut34, hA34, hC34⟩ := print_take_of (P := Try.prog) (Value.int .u8) 0 22 5 .i64 Try.underlying22 hi034 hsz34 (some ad149) (c0 - a1.toNat) y9_ 7 (by omega) (of_decide_eq_true (by first | (with_reducible assumption) | assumption)) HC144.out; have HR152 := Aside0.mk (Kd.C_of_reads (h1 := fun _ => rfl) (hA34 _ (Kd.reads_of_C HR144.out))); have HC152 := Aside0.mk hC34; clear hA34 hC34 hi034 hsz34) | (go_at_call 39; (first | (with_reducible refine (impl_Crc.calls kj2 _ _ (y9_.take 7) t153 _ ?side1 ?side2 A26.out).mono ?_) | (refine (calls_eq_ (by first | rfl | (simp only [List.length_drop, List.length_take, i64_w]; done) | (simp only [List.length_drop, List.length_take, i64_w]; rfl) | (simp only [List.length_drop, List.length_take]; rfl) | (rw [i64_w]; rfl)) (impl_Crc.calls kj2 _ _ (y9_.take 7) t153 _ ?side1 ?side2 A26.out)).mono ?_)); (case side1 => repeat (first | exact (Kd.C_below HR152.out (by repeat (first | (with_reducible first | exact HB.out | apply below_alloc | apply pw_below_drewN | apply below_drew1) | exact HB.out))) | (with_reducible refine Kd.C_alloc ?_ _) | (with_reducible refine Kd.C_drewN ?_ _) | (with_reducible refine Kd.C_drew ?_))); (case side2 => exact HC152.out); rintro e w' ⟨rfl, ⟨nd, rfl⟩⟩; (try first | exact ⟨rfl, _, World.drewN_drewN _ _ _⟩ | exact ⟨rfl, _, Eq.trans (World.drewN_drewN _ _ _) (congrArg (World.drewN _) (Nat.add_assoc _ _ _))⟩)))
                                  repeat (go_quiet (first | (go_at_call 51; (first | (with_reducible refine (impl_getBytes.calls kj2 _ _ ((y9_.take 11).drop 7) t151 _ ?side1 ?side2 A24.out).mono ?_) | (refine (calls_eq_ (by first | rfl | (simp only [List.length_drop, List.length_take, i64_w]; done) | (simp only [List.length_drop, List.length_take, i64_w]; rfl) | (simp only [List.length_drop, List.length_take]; rfl) | (rw [i64_w]; rfl) | (rw [HM_45.out]; done) | (rw [HM_45.out]; rfl) | (rw [HM_48.out]; done) | (rw [HM_48.out]; rfl)) (impl_getBytes.calls kj2 _ _ ((y9_.take 11).drop 7) t151 _ ?side1 ?side2 A24.out)).mono ?_)); (case side1 => repeat (first | exact (Kd.C_below HR150.out HB.out) | (with_reducible refine Kd.C_alloc ?_ _) | (with_reducible refine Kd.C_drewN ?_ _) | (with_reducible refine Kd.C_drew ?_))); (case side2 => exact HC150.out); rintro e w' ⟨rfl, ⟨nd, rfl⟩⟩; (try first | exact ⟨rfl, _, World.drewN_drewN _ _ _⟩ | exact ⟨rfl, _, Eq.trans (World.drewN_drewN _ _ _) (congrArg (World.drewN _) (Nat.add_assoc _ _ _))⟩); obtain ⟨i034, hi034, _, hsz34, _⟩ := info_parts info5; obtain ⟨hcut34, hA34, hC34⟩ := print_take_of (P := Try.prog) (Value.int .u8) 0 22 5 .i64 Try.underlying22 hi034 hsz34 (some ad149) (c0 - a1.toNat) y9_ 7 (by omega) (of_decide_eq_true (by first | (with_reducible assumption) | assumption)) HC144.out; have HR152 := Aside0.mk (Kd.C_of_reads (h1 := fun _ => rfl) (hA34 _ (Kd.reads_of_C HR144.out))); have HC152 := Aside0.mk hC34; clear hA34 hC34 hi034 hsz34) | (go_at_call 39; (first | (with_reducible refine (impl_Crc.calls kj2 _ _ (y9_.take 7) t153 _ ?side1 ?side2 A26.out).mono ?_) | (refine (calls_eq_ (by first | rfl | (simp only [List.length_drop, List.length_take, i64_w]; done) | (simp only [List.length_drop, List.length_take, i64_w]; rfl) | (simp only [List.length_drop, List.length_take]; rfl) | (rw [i64_w]; rfl)) (impl_Crc.calls kj2 _ _ (y9_.take 7) t153 _ ?side1 ?side2 A26.out)).mono ?_)); (case side1 => repeat (first | exact (Kd.C_below HR152.out (by repeat (first | (with_reducible first | exact HB.out | apply below_alloc | apply pw_below_drewN | apply below_drew1) | exact HB.out))) | (with_reducible refine Kd.C_alloc ?_ _) | (with_reducible refine Kd.C_drewN ?_ _) | (with_reducible refine Kd.C_drew ?_))); (case side2 => exact HC152.out); rintro e w' ⟨rfl, ⟨nd, rfl⟩⟩; (try first | exact ⟨rfl, _, World.drewN_drewN _ _ _⟩ | exact ⟨rfl, _, Eq.trans (World.drewN_drewN _ _ _) (congrArg (World.drewN _) (Nat.add_assoc _ _ _))⟩))); try go_wp2_with (first | (go_at_call 51; (first | (with_reducible refine (impl_getBytes.calls kj2 _ _ ((y9_.take 11).drop 7) t151 _ ?side1 ?side2 A24.out).mono ?_) | (refine (calls_eq_ (by first | rfl | (simp only [List.length_drop, List.length_take, i64_w]; done) | (simp only [List.length_drop, List.length_take, i64_w]; rfl) | (simp only [List.length_drop, List.length_take]; rfl) | (rw [i64_w]; rfl) | (rw [HM_45.out]; done) | (rw [HM_45.out]; rfl) | (rw [HM_48.out]; done) | (rw [HM_48.out]; rfl)) (impl_getBytes.calls kj2 _ _ ((y9_.take 11).drop 7) t151 _ ?side1 ?side2 A24.out)).mono ?_)); (case side1 => repeat (first | exact (Kd.C_below HR150.out HB.out) | (with_reducible refine Kd.C_alloc ?_ _) | (with_reducible refine Kd.C_drewN ?_ _) | (with_reducible refine Kd.C_drew ?_))); (case side2 => exact HC150.out); rintro e w' ⟨rfl, ⟨nd, rfl⟩⟩; (try first | exact ⟨rfl, _, World.drewN_drewN _ _ _⟩ | exact ⟨rfl, _, Eq.trans (World.drewN_drewN _ _ _) (congrArg (World.drewN _) (Nat.add_assoc _ _ _))⟩); obtain ⟨i034, hi034, _, hsz34, _⟩ := info_parts info5; obtain ⟨hcut34, hA34, hC34⟩ := print_take_of (P := Try.prog) (Value.int .u8) 0 22 5 .i64 Try.underlying22 hi034 hsz34 (some ad149) (c0 - a1.toNat) y9_ 7 (by omega) (of_decide_eq_true (by first | (with_reducible assumption) | assumption)) HC144.out; have HR152 := Aside0.mk (Kd.C_of_reads (h1 := fun _ => rfl) (hA34 _ (Kd.reads_of_C HR144.out))); have HC152 := Aside0.mk hC34; clear hA34 hC34 hi034 hsz34) | (go_at_call 39; (first | (with_reducible refine (impl_Crc.calls kj2 _ _ (y9_.take 7) t153 _ ?side1 ?side2 A26.out).mono ?_) | (refine (calls_eq_ (by first | rfl | (simp only [List.length_drop, List.length_take, i64_w]; done) | (simp only [List.length_drop, List.length_take, i64_w]; rfl) | (simp only [List.length_drop, List.length_take]; rfl) | (rw [i64_w]; rfl)) (impl_Crc.calls kj2 _ _ (y9_.take 7) t153 _ ?side1 ?side2 A26.out)).mono ?_)); (case side1 => repeat (first | exact (Kd.C_below HR152.out (by repeat (first | (with_reducible first | exact HB.out | apply below_alloc | apply pw_below_drewN | apply below_drew1) | exact HB.out))) | (with_reducible refine Kd.C_alloc ?_ _) | (with_reducible refine Kd.C_drewN ?_ _) | (with_reducible refine Kd.C_drew ?_))); (case side2 => exact HC152.out); rintro e w' ⟨rfl, ⟨nd, rfl⟩⟩; (try first | exact ⟨rfl, _, World.drewN_drewN _ _ _⟩ | exact ⟨rfl, _, Eq.trans (World.drewN_drewN _ _ _) (congrArg (World.drewN _) (Nat.add_assoc _ _ _))⟩))))
                                  go_meet
                                  case rel => exact ⟨_, (true), (by first | rfl | (simp; done) | (simp [*]; done)), H', ⟨by have := HJ2.out; first | omega | exact Nat.le_refl _⟩, ⟨by repeat (first | (with_reducible first | exact HB.out | apply below_alloc | apply pw_below_drewN | apply below_drew1) | exact HB.out)⟩⟩
                              · rw [if_neg c23] at H
                                exact absurd H (by simp)
                            · rw [if_neg c22] at H
                              exact absurd H (by simp)
                          · rw [if_neg c21] at H
                            have c21b0 : ((rd y9_ 0) == 82) = false := beq_eq_false_iff_ne.mpr c21
                            have c21b1 : ((rd y9_ 0) != 82) = true := bne_iff_ne.mpr c21
                            have H' := Aside0.mk H
                            clear H
                            have p149 : 0 ≤ (0 : Int) := (by omega)
                            have q149 : 0 < (y9_.length : Int) := of_decide_eq_true (by first | (with_reducible assumption) | assumption)
                            obtain ⟨ad149, e149, hx149_0⟩ := Kd.at_int HR144.out 0 p149 q149
                            cases e149
                            have qi149 : (0 < y9_.length) = True := eq_true (by omega)
                            (try rw [show ((0 : Int)).toNat = 0 from rfl] at hx149_0)
                            (try rw [Addr.add_zero'] at hx149_0)
                            replace hx149_0 := (HB.out.cell (World.block_lt_of_cell? w _ hx149_0)).trans hx149_0
                            replace p149 := eq_true p149
                            replace q149 := eq_true q149
                            go_wp2
                            repeat (go_quiet (fail); try go_wp2)
                            go_meet
                            case rel => exact ⟨_, (true), (by first | rfl | (simp; done) | (simp [*]; done)), H', ⟨by have := HJ2.out; first | omega | exact Nat.le_refl _⟩, ⟨by repeat (first | (with_reducible first | exact HB.out | apply below_alloc | apply pw_below_drewN | apply below_drew1) | exact HB.out)⟩⟩
                        · rw [if_neg c20] at H
                          exact absurd H (by simp)
                      case rest =>
                        clear HC16
                        try clear c1
                        try clear p1
                        try clear q1
                        try clear hx1
                        try clear qi1
                        try clear c2
                        try clear p2
                        try clear c4
                        try clear c4b0
                        try clear c5
                        try clear c6
                        try clear c6b0
                        try clear c6b1
                        try clear c7
                        try clear c7b0
                        try clear c7b1
                        try clear c8
                        try clear c8b0
                        try clear c8b1
                        try clear c10
                        try clear c10b0
                        try clear c10b1
                        try clear c11
                        try clear c11b0
                        try clear c11b1
                        try clear c13
                        try clear c13b0
                        try clear c13b1
                        try clear c14
                        try clear c14b0
                        try clear c14b1
                        try clear p14
                        try clear q14
                        try clear hx14
                        try clear qi14
                        try clear c20
                        try clear c20b0
                        try clear c20b1
                        try clear c21
                        try clear c21b0
                        try clear c21b1
                        try clear c22
                        try clear c22b0
                        try clear c22b1
                        try clear c23
                        try clear c23b0
                        try clear c23b1
                        try clear c25
                        try clear c25b0
                        try clear c26
                        try clear c27
                        try clear c27b0
                        try clear c27b1
                        try clear c28
                        try clear c28b0
                        try clear hx149_0
                        try clear p149
                        try clear p2
                        try clear q149
                        obtain ⟨kq, x52_15, rfl, HA, HJ15, HB⟩ := hcut
                        cases kq with
                        | zero => exact absurd HA.out (by simp [impl_FrameRead.j1])
                        | succ kj15 =>
                          have H := HA.out
                          clear HA
                          simp only [impl_FrameRead.j1] at H
                          (try rw [← NY9_.out] at H)
                          by_cases c35 : x52_15 = true
                          · subst c35
                            have H1 : (some (0, ([] : List Int), 0, 3)) = some (r1, r2, r3, r4) := by rw [if_pos rfl] at H; exact H
                            clear H
                            have H := H1
                            clear H1
                            simp only [Option.some.injEq, Prod.mk.injEq] at H
                            obtain ⟨rfl, rfl, rfl, rfl⟩ := H
                            go_wp2
                            repeat (go_quiet (fail); try go_wp2)
                            refine bodyPost_ret (results_list (rs := [.tmp 4, .tmp 5, .tmp 6, .tmp 7]) rfl (by simp) (.tmp (.tmp (.tmp (.tmp .nil))))) rfl ?_
                            exact ⟨_, by first | rfl | (simp [errW_none, errW_some] <;> rfl) | (simp [*, errW_none, errW_some] <;> rfl), by first | exact Kd.R_nil _ _ _ _ _ | exact Kd.N_nil _ _ _ _ _ | exact Kd.V_nil _ _ _ _ _ | exact Kd.Q_nil _ _ _ _ _ | exact Kd.S_nil _ _ _ _ _, by repeat (first | (with_reducible first | exact HB.out | apply below_alloc | apply pw_below_drewN | apply below_drew1) | exact HB.out)⟩
                          · replace c35 := Bool.eq_false_iff.mpr c35
                            subst c35
                            have H1 : (if (y9_.length : Int) < (wrap64 (15 + t148)) then (some (0, ([] : List Int), 0, 4)) else (if 15 ≤ (wrap64 (15 + t148)) then (if (wrap64 (15 + t148)) ≤ (y9_.length : Int) then (if 11 ≤ 15 then (if 15 ≤ (y9_.length : Int) then ((impl_getBytes.f kj15 ((y9_.take 15).drop 11)).bind fun t156 => ((impl_Crc.f kj15 ((y9_.take ((wrap64 (15 + t148)) : Int).toNat).drop 15)).bind fun t157 => (if t156 = t157 then ((slices_Clone_byte_byte.f ((y9_.take ((wrap64 (15 + t148)) : Int).toNat).drop 15)).bind fun t158 => (some (t146, t158, wrap64 ((wrap64 (a1 + 15)) + t148), 0))) else (some (0, ([] : List Int), 0, 5))))) else (none)) else (none)) else (none)) else (none))) = some (r1, r2, r3, r4) := by rw [if_neg (show ¬ (false = true) by decide)] at H; exact H
                            clear H
                            have H := H1
                            clear H1
                            by_cases c36 : (y9_.length : Int) < (wrap64 (15 + t148))
                            · rw [if_pos c36] at H
                              have c36b0 : decide ((y9_.length : Int) < (wrap64 (15 + t148))) = true := decide_eq_true c36
                              clear c36
                              simp only [Option.some.injEq, Prod.mk.injEq] at H
                              obtain ⟨rfl, rfl, rfl, rfl⟩ := H
                              go_wp2
                              repeat (go_quiet (fail); try go_wp2)
                              refine bodyPost_ret (results_list (rs := [.tmp 4, .tmp 5, .tmp 6, .tmp 7]) rfl (by simp) (.tmp (.tmp (.tmp (.tmp .nil))))) rfl ?_
                              exact ⟨_, by first | rfl | (simp [errW_none, errW_some] <;> rfl) | (simp [*, errW_none, errW_some] <;> rfl), by first | exact Kd.R_nil _ _ _ _ _ | exact Kd.N_nil _ _ _ _ _ | exact Kd.V_nil _ _ _ _ _ | exact Kd.Q_nil _ _ _ _ _ | exact Kd.S_nil _ _ _ _ _, by repeat (first | (with_reducible first | exact HB.out | apply below_alloc | apply pw_below_drewN | apply below_drew1) | exact HB.out)⟩
                            · rw [if_neg c36] at H
                              have c36b0 : decide ((y9_.length : Int) < (wrap64 (15 + t148))) = false := decide_eq_false c36
                              clear c36
                              by_cases c37 : 15 ≤ (wrap64 (15 + t148))
                              · rw [if_pos c37] at H
                                have c37b0 := eq_true c37
                                have c37b1 : decide (15 ≤ (wrap64 (15 + t148))) = true := decide_eq_true c37
                                by_cases c38 : (wrap64 (15 + t148)) ≤ (y9_.length : Int)
                                · rw [if_pos c38] at H
                                  have c38b0 := eq_true c38
                                  have c38b1 : decide ((wrap64 (15 + t148)) ≤ (y9_.length : Int)) = true := decide_eq_true c38
                                  by_cases c39 : 11 ≤ 15
                                  · rw [if_pos c39] at H
                                    have c39b0 := eq_true c39
                                    have c39b1 : decide (11 ≤ 15) = true := decide_eq_true c39
                                    clear c39
                                    by_cases c40 : 15 ≤ (y9_.length : Int)
                                    · rw [if_pos c40] at H
                                      have c40b0 := eq_true c40
                                      have c40b1 : decide (15 ≤ (y9_.length : Int)) = true := decide_eq_true c40
                                      clear c40
                                      replace H := Option.bind_eq_some_iff.mp H
                                      obtain ⟨t156, A410, H⟩ := H
                                      replace H : ((impl_Crc.f kj15 ((y9_.take ((wrap64 (15 + t148)) : Int).toNat).drop 15)).bind fun t157 => (if t156 = t157 then ((slices_Clone_byte_byte.f ((y9_.take ((wrap64 (15 + t148)) : Int).toNat).drop 15)).bind fun t158 => (some (t146, t158, wrap64 ((wrap64 (a1 + 15)) + t148), 0))) else (some (0, ([] : List Int), 0, 5)))) = some (r1, r2, r3, r4) := H
                                      have A41 := Aside0.mk A410
                                      clear A410
                                      replace H := Option.bind_eq_some_iff.mp H
                                      obtain ⟨t157, A420, H⟩ := H
                                      replace H : (if t156 = t157 then ((slices_Clone_byte_byte.f ((y9_.take ((wrap64 (15 + t148)) : Int).toNat).drop 15)).bind fun t158 => (some (t146, t158, wrap64 ((wrap64 (a1 + 15)) + t148), 0))) else (some (0, ([] : List Int), 0, 5))) = some (r1, r2, r3, r4) := H
                                      have A42 := Aside0.mk A420
                                      clear A420
                                      by_cases c43 : t156 = t157
                                      · rw [if_pos c43] at H
                                        have c43b0 : (t156 == t157) = true := beq_iff_eq.mpr c43
                                        have c43b1 : (t156 != t157) = false := bne_eq_false_iff_eq.mpr c43
                                        clear c43
                                        replace H := Option.bind_eq_some_iff.mp H
                                        obtain ⟨t158, A440, H⟩ := H
                                        replace H : (some (t146, t158, wrap64 ((wrap64 (a1 + 15)) + t148), 0)) = some (r1, r2, r3, r4) := H
                                        have A44 := Aside0.mk A440
                                        clear A440
                                        simp only [Option.some.injEq, Prod.mk.injEq] at H
                                        obtain ⟨rfl, rfl, rfl, rfl⟩ := H
                                        obtain ⟨i045, hi045, _, hsz45, _⟩ := info_parts info5
                                        obtain ⟨A45, hcut45, hA45, hC45⟩ := print_mid_of (P := Try.prog) (Value.int .u8) 0 22 5 .i64 .i64 Try.underlying22 hi045 hsz45 A17 (c0 - a1.toNat) y9_ 15 (wrap64 (15 + t148)) (by omega) (by first | omega | exact of_decide_eq_true (by first | (with_reducible assumption) | assumption)) (of_decide_eq_true (by first | (with_reducible assumption) | assumption)) HC144.out
                                        have HM_45 := Aside0.mk (show ((y9_.take ((wrap64 (15 + t148)) : Int).toNat).drop 15).length = ((wrap64 (15 + t148)) : Int).toNat - 15 by rw [List.length_drop, List.length_take]; have h_ : (wrap64 (15 + t148)) ≤ (y9_.length : Int) := (of_decide_eq_true (by first | (with_reducible assumption) | assumption)); omega)
                                        have HR154 := Aside0.mk (Kd.C_of_reads (h1 := fun _ => rfl) (hA45 _ (Kd.reads_of_C HR144.out)))
                                        have HC154 := Aside0.mk hC45
                                        clear hA45 hC45 hi045 hsz45
                                        obtain ⟨i046, hi046, _, hsz46, _⟩ := info_parts info5
                                        obtain ⟨A46, hcut46, hA46, hC46⟩ := print_mid_of (P := Try.prog) (Value.int .u8) 0 22 5 .i64 .i64 Try.underlying22 hi046 hsz46 A17 (c0 - a1.toNat) y9_ 11 15 (by omega) (by first | omega | exact of_decide_eq_true (by first | (with_reducible assumption) | assumption)) (of_decide_eq_true (by first | (with_reducible assumption) | assumption)) HC144.out
                                        have HR155 := Aside0.mk (Kd.C_of_reads (h1 := fun _ => rfl) (hA46 _ (Kd.reads_of_C HR144.out)))
                                        have HC155 := Aside0.mk hC46
                                        clear hA46 hC46 hi046 hsz46
                                        go_wp2_with (first | (go_at_call 51; (first | (with_reducible refine (impl_getBytes.calls kj15 _ _ ((y9_.take 15).drop 11) t156 _ ?side1 ?side2 A41.out).mono ?_) | (refine (calls_eq_ (by first | rfl | (simp only [List.length_drop, List.length_take, i64_w]; done) | (simp only [List.length_drop, List.length_take, i64_w]; rfl) | (simp only [List.length_drop, List.length_take]; rfl) | (rw [i64_w]; rfl) | (rw [HM_45.out]; done) | (rw [HM_45.out]; rfl) | (rw [HM_48.out]; done) | (rw [HM_48.out]; rfl)) (impl_getBytes.calls kj15 _ _ ((y9_.take 15).drop 11) t156 _ ?side1 ?side2 A41.out)).mono ?_)); (case side1 => repeat (first | exact (Kd.C_below HR155.out HB.out) | (with_reducible refine Kd.C_alloc ?_ _) | (with_reducible refine Kd.C_drewN ?_ _) | (with_reducible refine Kd.C_drew ?_))); (case side2 => exact HC155.out); rintro e w' ⟨rfl, ⟨nd, rfl⟩⟩; (try first | exact ⟨rfl, _, World.drewN_drewN _ _ _⟩ | exact ⟨rfl, _, Eq.trans (World.drewN_drewN _ _ _) (congrArg (World.drewN _) (Nat.add_assoc _ _ _))⟩)) | (go_at_call 39; (first | (with_reducible refine (impl_Crc.calls kj15 _ _ ((y9_.take ((wrap64 (15 + t148)) : Int).toNat).drop 15) t157 _ ?side1 ?side2 A42.out).mono ?_) | (refine (calls_eq_ (by first | rfl | (simp only [List.length_drop, List.length_take, i64_w]; done) | (simp only [List.length_drop, List.length_take, i64_w]; rfl) | (simp only [List.length_drop, List.length_take]; rfl) | (rw [i64_w]; rfl) | (rw [HM_45.out]; done) | (rw [HM_45.out]; rfl) | (rw [HM_48.out]; done) | (rw [HM_48.out]; rfl)) (impl_Crc.calls kj15 _ _ ((y9_.take ((wrap64 (15 + t148)) : Int).toNat).drop 15) t157 _ ?side1 ?side2 A42.out)).mono ?_)); (case side1 => repeat (first | exact (Kd.C_below HR154.out (by repeat (first | (with_reducible first | exact HB.out | apply below_alloc | apply pw_below_drewN | apply below_drew1) | exact HB.out))) | (with_reducible refine Kd.C_alloc ?_ _) | (with_reducible refine Kd.C_drewN ?_ _) | (with_reducible refine Kd.C_drew ?_))); (case side2 => exact HC154.out); rintro e w' ⟨rfl, ⟨nd, rfl⟩⟩; (try first | exact ⟨rfl, _, World.drewN_drewN _ _ _⟩ | exact ⟨rfl, _, Eq.trans (World.drewN_drewN _ _ _) (congrArg (World.drewN _) (Nat.add_assoc _ _ _))⟩)) | (go_at_call 52; (first | (with_reducible refine (slices_Clone_byte_byte.calls _ _ ((y9_.take ((wrap64 (15 + t148)) : Int).toNat).drop 15) t158 _ ?side1 ?side2 A44.out).mono ?_) | (refine (calls_eq_ (by first | rfl | (simp only [List.length_drop, List.length_take, i64_w]; done) | (simp only [List.length_drop, List.length_take, i64_w]; rfl) | (simp only [List.length_drop, List.length_take]; rfl) | (rw [i64_w]; rfl) | (rw [HM_45.out]; done) | (rw [HM_45.out]; rfl) | (rw [HM_48.out]; done) | (rw [HM_48.out]; rfl)) (slices_Clone_byte_byte.calls _ _ ((y9_.take ((wrap64 (15 + t148)) : Int).toNat).drop 15) t158 _ ?side1 ?side2 A44.out)).mono ?_)); (case side1 => repeat (first | exact (Kd.C_below HR154.out (by repeat (first | (with_reducible first | exact HB.out | apply below_alloc | apply pw_below_drewN | apply below_drew1) | exact HB.out))) | (with_reducible refine Kd.C_alloc ?_ _) | (with_reducible refine Kd.C_drewN ?_ _) | (with_reducible refine Kd.C_drew ?_))); (case side2 => exact HC154.out); rintro e w47 ⟨v159, rfl, ho0, hb⟩; have n0_ := Aside0.mk (Kd.R_lower ho0 (below_size (by repeat (first | (with_reducible first | exact HB.out | apply below_alloc | apply pw_below_drewN | apply below_drew1) | exact HB.out)))); have n1_ := Aside0.mk (below_step (by repeat (first | (with_reducible first | exact HB.out | apply below_alloc | apply pw_below_drewN | apply below_drew1) | exact HB.out)) hb); clear HB; have HO160 := n0_; have HB := n1_; clear n0_ n1_; (try clear hb); (try clear hb2); (try clear hk); (try clear hi); (try clear ho0)))
                                        repeat (go_quiet (first | (go_at_call 51; (first | (with_reducible refine (impl_getBytes.calls kj15 _ _ ((y9_.take 15).drop 11) t156 _ ?side1 ?side2 A41.out).mono ?_) | (refine (calls_eq_ (by first | rfl | (simp only [List.length_drop, List.length_take, i64_w]; done) | (simp only [List.length_drop, List.length_take, i64_w]; rfl) | (simp only [List.length_drop, List.length_take]; rfl) | (rw [i64_w]; rfl) | (rw [HM_45.out]; done) | (rw [HM_45.out]; rfl) | (rw [HM_48.out]; done) | (rw [HM_48.out]; rfl)) (impl_getBytes.calls kj15 _ _ ((y9_.take 15).drop 11) t156 _ ?side1 ?side2 A41.out)).mono ?_)); (case side1 => repeat (first | exact (Kd.C_below HR155.out HB.out) | (with_reducible refine Kd.C_alloc ?_ _) | (with_reducible refine Kd.C_drewN ?_ _) | (with_reducible refine Kd.C_drew ?_))); (case side2 => exact HC155.out); rintro e w' ⟨rfl, ⟨nd, rfl⟩⟩; (try first | exact ⟨rfl, _, World.drewN_drewN _ _ _⟩ | exact ⟨rfl, _, Eq.trans (World.drewN_drewN _ _ _) (congrArg (World.drewN _) (Nat.add_assoc _ _ _))⟩)) | (go_at_call 39; (first | (with_reducible refine (impl_Crc.calls kj15 _ _ ((y9_.take ((wrap64 (15 + t148)) : Int).toNat).drop 15) t157 _ ?side1 ?side2 A42.out).mono ?_) | (refine (calls_eq_ (by first | rfl | (simp only [List.length_drop, List.length_take, i64_w]; done) | (simp only [List.length_drop, List.length_take, i64_w]; rfl) | (simp only [List.length_drop, List.length_take]; rfl) | (rw [i64_w]; rfl) | (rw [HM_45.out]; done) | (rw [HM_45.out]; rfl) | (rw [HM_48.out]; done) | (rw [HM_48.out]; rfl)) (impl_Crc.calls kj15 _ _ ((y9_.take ((wrap64 (15 + t148)) : Int).toNat).drop 15) t157 _ ?side1 ?side2 A42.out)).mono ?_)); (case side1 => repeat (first | exact (Kd.C_below HR154.out (by repeat (first | (with_reducible first | exact HB.out | apply below_alloc | apply pw_below_drewN | apply below_drew1) | exact HB.out))) | (with_reducible refine Kd.C_alloc ?_ _) | (with_reducible refine Kd.C_drewN ?_ _) | (with_reducible refine Kd.C_drew ?_))); (case side2 => exact HC154.out); rintro e w' ⟨rfl, ⟨nd, rfl⟩⟩; (try first | exact ⟨rfl, _, World.drewN_drewN _ _ _⟩ | exact ⟨rfl, _, Eq.trans (World.drewN_drewN _ _ _) (congrArg (World.drewN _) (Nat.add_assoc _ _ _))⟩)) | (go_at_call 52; (first | (with_reducible refine (slices_Clone_byte_byte.calls _ _ ((y9_.take ((wrap64 (15 + t148)) : Int).toNat).drop 15) t158 _ ?side1 ?side2 A44.out).mono ?_) | (refine (calls_eq_ (by first | rfl | (simp only [List.length_drop, List.length_take, i64_w]; done) | (simp only [List.length_drop, List.length_take, i64_w]; rfl) | (simp only [List.length_drop, List.length_take]; rfl) | (rw [i64_w]; rfl) | (rw [HM_45.out]; done) | (rw [HM_45.out]; rfl) | (rw [HM_48.out]; done) | (rw [HM_48.out]; rfl)) (slices_Clone_byte_byte.calls _ _ ((y9_.take ((wrap64 (15 + t148)) : Int).toNat).drop 15) t158 _ ?side1 ?side2 A44.out)).mono ?_)); (case side1 => repeat (first | exact (Kd.C_below HR154.out (by repeat (first | (with_reducible first | exact HB.out | apply below_alloc | apply pw_below_drewN | apply below_drew1) | exact HB.out))) | (with_reducible refine Kd.C_alloc ?_ _) | (with_reducible refine Kd.C_drewN ?_ _) | (with_reducible refine Kd.C_drew ?_))); (case side2 => exact HC154.out); rintro e w47 ⟨v159, rfl, ho0, hb⟩; have n0_ := Aside0.mk (Kd.R_lower ho0 (below_size (by repeat (first | (with_reducible first | exact HB.out | apply below_alloc | apply pw_below_drewN | apply below_drew1) | exact HB.out)))); have n1_ := Aside0.mk (below_step (by repeat (first | (with_reducible first | exact HB.out | apply below_alloc | apply pw_below_drewN | apply below_drew1) | exact HB.out)) hb); clear HB; have HO160 := n0_; have HB := n1_; clear n0_ n1_; (try clear hb); (try clear hb2); (try clear hk); (try clear hi); (try clear ho0))); try go_wp2_with (first | (go_at_call 51; (first | (with_reducible refine (impl_getBytes.calls kj15 _ _ ((y9_.take 15).drop 11) t156 _ ?side1 ?side2 A41.out).mono ?_) | (refine (calls_eq_ (by first | rfl | (simp only [List.length_drop, List.length_take, i64_w]; done) | (simp only [List.length_drop, List.length_take, i64_w]; rfl) | (simp only [List.length_drop, List.length_take]; rfl) | (rw [i64_w]; rfl) | (rw [HM_45.out]; done) | (rw [HM_45.out]; rfl) | (rw [HM_48.out]; done) | (rw [HM_48.out]; rfl)) (impl_getBytes.calls kj15 _ _ ((y9_.take 15).drop 11) t156 _ ?side1 ?side2 A41.out)).mono ?_)); (case side1 => repeat (first | exact (Kd.C_below HR155.out HB.out) | (with_reducible refine Kd.C_alloc ?_ _) | (with_reducible refine Kd.C_drewN ?_ _) | (with_reducible refine Kd.C_drew ?_))); (case side2 => exact HC155.out); rintro e w' ⟨rfl, ⟨nd, rfl⟩⟩; (try first | exact ⟨rfl, _, World.drewN_drewN _ _ _⟩ | exact ⟨rfl, _, Eq.trans (World.drewN_drewN _ _ _) (congrArg (World.drewN _) (Nat.add_assoc _ _ _))⟩)) | (go_at_call 39; (first | (with_reducible refine (impl_Crc.calls kj15 _ _ ((y9_.take ((wrap64 (15 + t148)) : Int).toNat).drop 15) t157 _ ?side1 ?side2 A42.out).mono ?_) | (refine (calls_eq_ (by first | rfl | (simp only [List.length_drop, List.length_take, i64_w]; done) | (simp only [List.length_drop, List.length_take, i64_w]; rfl) | (simp only [List.length_drop, List.length_take]; rfl) | (rw [i64_w]; rfl) | (rw [HM_45.out]; done) | (rw [HM_45.out]; rfl) | (rw [HM_48.out]; done) | (rw [HM_48.out]; rfl)) (impl_Crc.calls kj15 _ _ ((y9_.take ((wrap64 (15 + t148)) : Int).toNat).drop 15) t157 _ ?side1 ?side2 A42.out)).mono ?_)); (case side1 => repeat (first | exact (Kd.C_below HR154.out (by repeat (first | (with_reducible first | exact HB.out | apply below_alloc | apply pw_below_drewN | apply below_drew1) | exact HB.out))) | (with_reducible refine Kd.C_alloc ?_ _) | (with_reducible refine Kd.C_drewN ?_ _) | (with_reducible refine Kd.C_drew ?_))); (case side2 => exact HC154.out); rintro e w' ⟨rfl, ⟨nd, rfl⟩⟩; (try first | exact ⟨rfl, _, World.drewN_drewN _ _ _⟩ | exact ⟨rfl, _, Eq.trans (World.drewN_drewN _ _ _) (congrArg (World.drewN _) (Nat.add_assoc _ _ _))⟩)) | (go_at_call 52; (first | (with_reducible refine (slices_Clone_byte_byte.calls _ _ ((y9_.take ((wrap64 (15 + t148)) : Int).toNat).drop 15) t158 _ ?side1 ?side2 A44.out).mono ?_) | (refine (calls_eq_ (by first | rfl | (simp only [List.length_drop, List.length_take, i64_w]; done) | (simp only [List.length_drop, List.length_take, i64_w]; rfl) | (simp only [List.length_drop, List.length_take]; rfl) | (rw [i64_w]; rfl) | (rw [HM_45.out]; done) | (rw [HM_45.out]; rfl) | (rw [HM_48.out]; done) | (rw [HM_48.out]; rfl)) (slices_Clone_byte_byte.calls _ _ ((y9_.take ((wrap64 (15 + t148)) : Int).toNat).drop 15) t158 _ ?side1 ?side2 A44.out)).mono ?_)); (case side1 => repeat (first | exact (Kd.C_below HR154.out (by repeat (first | (with_reducible first | exact HB.out | apply below_alloc | apply pw_below_drewN | apply below_drew1) | exact HB.out))) | (with_reducible refine Kd.C_alloc ?_ _) | (with_reducible refine Kd.C_drewN ?_ _) | (with_reducible refine Kd.C_drew ?_))); (case side2 => exact HC154.out); rintro e w47 ⟨v159, rfl, ho0, hb⟩; have n0_ := Aside0.mk (Kd.R_lower ho0 (below_size (by repeat (first | (with_reducible first | exact HB.out | apply below_alloc | apply pw_below_drewN | apply below_drew1) | exact HB.out)))); have n1_ := Aside0.mk (below_step (by repeat (first | (with_reducible first | exact HB.out | apply below_alloc | apply pw_below_drewN | apply below_drew1) | exact HB.out)) hb); clear HB; have HO160 := n0_; have HB := n1_; clear n0_ n1_; (try clear hb); (try clear hb2); (try clear hk); (try clear hi); (try clear ho0))))
                                        refine bodyPost_ret (results_list (rs := [.tmp 4, .tmp 5, .tmp 6, .tmp 7]) rfl (by simp) (.tmp (.tmp (.tmp (.tmp .nil))))) rfl ?_
                                        exact ⟨_, by first | rfl | (simp [errW_none, errW_some] <;> rfl) | (simp [*, errW_none, errW_some] <;> rfl), by (with_reducible repeat (first | apply Kd.R_alloc | apply Kd.R_drewN | apply Kd.R_drew)); exact HO160.out, by repeat (first | (with_reducible first | exact HB.out | apply below_alloc | apply pw_below_drewN | apply below_drew1) | exact HB.out)⟩
                                      · rw [if_neg c43] at H
                                        have c43b0 : (t156 == t157) = false := beq_eq_false_iff_ne.mpr c43
                                        have c43b1 : (t156 != t157) = true := bne_iff_ne.mpr c43
                                        simp only [Option.some.injEq, Prod.mk.injEq] at H
                                        obtain ⟨rfl, rfl, rfl, rfl⟩ := H
                                        obtain ⟨i048, hi048, _, hsz48, _⟩ := info_parts info5
                                        obtain ⟨A48, hcut48, hA48, hC48⟩ := print_mid_of (P := Try.prog) (Value.int .u8) 0 22 5 .i64 .i64 Try.underlying22 hi048 hsz48 A17 (c0 - a1.toNat) y9_ 15 (wrap64 (15 + t148)) (by omega) (by first | omega | exact of_decide_eq_true (by first | (with_reducible assumption) | assumption)) (of_decide_eq_true (by first | (with_reducible assumption) | assumption)) HC144.out
                                        have HM_48 := Aside0.mk (show ((y9_.take ((wrap64 (15 + t148)) : Int).toNat).drop 15).length = ((wrap64 (15 + t148)) : Int).toNat - 15 by rw [List.length_drop, List.length_take]; have h_ : (wrap64 (15 + t148)) ≤ (y9_.length : Int) := (of_decide_eq_true (by first | (with_reducible assumption) | assumption)); omega)
                                        have HR154 := Aside0.mk (Kd.C_of_reads (h1 := fun _ => rfl) (hA48 _ (Kd.reads_of_C HR144.out)))
                                        have HC154 := Aside0.mk hC48
                                        clear hA48 hC48 hi048 hsz48
                                        obtain ⟨i049, hi049, _, hsz49, _⟩ := info_parts info5
                                        obtain ⟨A49, hcut49, hA49, hC49⟩ := print_mid_of (P := Try.prog) (Value.int .u8) 0 22 5 .i64 .i64 Try.underlying22 hi049 hsz49 A17 (c0 - a1.toNat) y9_ 11 15 (by omega) (by first | omega | exact of_decide_eq_true (by first | (with_reducible assumption) | assumption)) (of_decide_eq_true (by first | (with_reducible assumption) | assumption)) HC144.out
                                        have HR155 := Aside0.mk (Kd.C_of_reads (h1 := fun _ => rfl) (hA49 _ (Kd.reads_of_C HR144.out)))
                                        have HC155 := Aside0.mk hC49
                                        clear hA49 hC49 hi049 hsz49
                                        go_wp2_with (first | (go_at_call 51; (first | (with_reducible refine (impl_getBytes.calls kj15 _ _ ((y9_.take 15).drop 11) t156 _ ?side1 ?side2 A41.out).mono ?_) | (refine (calls_eq_ (by first | rfl | (simp only [List.length_drop, List.length_take, i64_w]; done) | (simp only [List.length_drop, List.length_take, i64_w]; rfl) | (simp only [List.length_drop, List.length_take]; rfl) | (rw [i64_w]; rfl) | (rw [HM_45.out]; done) | (rw [HM_45.out]; rfl) | (rw [HM_48.out]; done) | (rw [HM_48.out]; rfl)) (impl_getBytes.calls kj15 _ _ ((y9_.take 15).drop 11) t156 _ ?side1 ?side2 A41.out)).mono ?_)); (case side1 => repeat (first | exact (Kd.C_below HR155.out HB.out) | (with_reducible refine Kd.C_alloc ?_ _) | (with_reducible refine Kd.C_drewN ?_ _) | (with_reducible refine Kd.C_drew ?_))); (case side2 => exact HC155.out); rintro e w' ⟨rfl, ⟨nd, rfl⟩⟩; (try first | exact ⟨rfl, _, World.drewN_drewN _ _ _⟩ | exact ⟨rfl, _, Eq.trans (World.drewN_drewN _ _ _) (congrArg (World.drewN _) (Nat.add_assoc _ _ _))⟩)) | (go_at_call 39; (first | (with_reducible refine (impl_Crc.calls kj15 _ _ ((y9_.take ((wrap64 (15 + t148)) : Int).toNat).drop 15) t157 _ ?side1 ?side2 A42.out).mono ?_) | (refine (calls_eq_ (by first | rfl | (simp only [List.length_drop, List.length_take, i64_w]; done) | (simp only [List.length_drop, List.length_take, i64_w]; rfl) | (simp only [List.length_drop, List.length_take]; rfl) | (rw [i64_w]; rfl) | (rw [HM_45.out]; done) | (rw [HM_45.out]; rfl) | (rw [HM_48.out]; done) | (rw [HM_48.out]; rfl)) (impl_Crc.calls kj15 _ _ ((y9_.take ((wrap64 (15 + t148)) : Int).toNat).drop 15) t157 _ ?side1 ?side2 A42.out)).mono ?_)); (case side1 => repeat (first | exact (Kd.C_below HR154.out (by repeat (first | (with_reducible first | exact HB.out | apply below_alloc | apply pw_below_drewN | apply below_drew1) | exact HB.out))) | (with_reducible refine Kd.C_alloc ?_ _) | (with_reducible refine Kd.C_drewN ?_ _) | (with_reducible refine Kd.C_drew ?_))); (case side2 => exact HC154.out); rintro e w' ⟨rfl, ⟨nd, rfl⟩⟩; (try first | exact ⟨rfl, _, World.drewN_drewN _ _ _⟩ | exact ⟨rfl, _, Eq.trans (World.drewN_drewN _ _ _) (congrArg (World.drewN _) (Nat.add_assoc _ _ _))⟩)))
                                        repeat (go_quiet (first | (go_at_call 51; (first | (with_reducible refine (impl_getBytes.calls kj15 _ _ ((y9_.take 15).drop 11) t156 _ ?side1 ?side2 A41.out).mono ?_) | (refine (calls_eq_ (by first | rfl | (simp only [List.length_drop, List.length_take, i64_w]; done) | (simp only [List.length_drop, List.length_take, i64_w]; rfl) | (simp only [List.length_drop, List.length_take]; rfl) | (rw [i64_w]; rfl) | (rw [HM_45.out]; done) | (rw [HM_45.out]; rfl) | (rw [HM_48.out]; done) | (rw [HM_48.out]; rfl)) (impl_getBytes.calls kj15 _ _ ((y9_.take 15).drop 11) t156 _ ?side1 ?side2 A41.out)).mono ?_)); (case side1 => repeat (first | exact (Kd.C_below HR155.out HB.out) | (with_reducible refine Kd.C_alloc ?_ _) | (with_reducible refine Kd.C_drewN ?_ _) | (with_reducible refine Kd.C_drew ?_))); (case side2 => exact HC155.out); rintro e w' ⟨rfl, ⟨nd, rfl⟩⟩; (try first | exact ⟨rfl, _, World.drewN_drewN _ _ _⟩ | exact ⟨rfl, _, Eq.trans (World.drewN_drewN _ _ _) (congrArg (World.drewN _) (Nat.add_assoc _ _ _))⟩)) | (go_at_call 39; (first | (with_reducible refine (impl_Crc.calls kj15 _ _ ((y9_.take ((wrap64 (15 + t148)) : Int).toNat).drop 15) t157 _ ?side1 ?side2 A42.out).mono ?_) | (refine (calls_eq_ (by first | rfl | (simp only [List.length_drop, List.length_take, i64_w]; done) | (simp only [List.length_drop, List.length_take, i64_w]; rfl) | (simp only [List.length_drop, List.length_take]; rfl) | (rw [i64_w]; rfl) | (rw [HM_45.out]; done) | (rw [HM_45.out]; rfl) | (rw [HM_48.out]; done) | (rw [HM_48.out]; rfl)) (impl_Crc.calls kj15 _ _ ((y9_.take ((wrap64 (15 + t148)) : Int).toNat).drop 15) t157 _ ?side1 ?side2 A42.out)).mono ?_)); (case side1 => repeat (first | exact (Kd.C_below HR154.out (by repeat (first | (with_reducible first | exact HB.out | apply below_alloc | apply pw_below_drewN | apply below_drew1) | exact HB.out))) | (with_reducible refine Kd.C_alloc ?_ _) | (with_reducible refine Kd.C_drewN ?_ _) | (with_reducible refine Kd.C_drew ?_))); (case side2 => exact HC154.out); rintro e w' ⟨rfl, ⟨nd, rfl⟩⟩; (try first | exact ⟨rfl, _, World.drewN_drewN _ _ _⟩ | exact ⟨rfl, _, Eq.trans (World.drewN_drewN _ _ _) (congrArg (World.drewN _) (Nat.add_assoc _ _ _))⟩))); try go_wp2_with (first | (go_at_call 51; (first | (with_reducible refine (impl_getBytes.calls kj15 _ _ ((y9_.take 15).drop 11) t156 _ ?side1 ?side2 A41.out).mono ?_) | (refine (calls_eq_ (by first | rfl | (simp only [List.length_drop, List.length_take, i64_w]; done) | (simp only [List.length_drop, List.length_take, i64_w]; rfl) | (simp only [List.length_drop, List.length_take]; rfl) | (rw [i64_w]; rfl) | (rw [HM_45.out]; done) | (rw [HM_45.out]; rfl) | (rw [HM_48.out]; done) | (rw [HM_48.out]; rfl)) (impl_getBytes.calls kj15 _ _ ((y9_.take 15).drop 11) t156 _ ?side1 ?side2 A41.out)).mono ?_)); (case side1 => repeat (first | exact (Kd.C_below HR155.out HB.out) | (with_reducible refine Kd.C_alloc ?_ _) | (with_reducible refine Kd.C_drewN ?_ _) | (with_reducible refine Kd.C_drew ?_))); (case side2 => exact HC155.out); rintro e w' ⟨rfl, ⟨nd, rfl⟩⟩; (try first | exact ⟨rfl, _, World.drewN_drewN _ _ _⟩ | exact ⟨rfl, _, Eq.trans (World.drewN_drewN _ _ _) (congrArg (World.drewN _) (Nat.add_assoc _ _ _))⟩)) | (go_at_call 39; (first | (with_reducible refine (impl_Crc.calls kj15 _ _ ((y9_.take ((wrap64 (15 + t148)) : Int).toNat).drop 15) t157 _ ?side1 ?side2 A42.out).mono ?_) | (refine (calls_eq_ (by first | rfl | (simp only [List.length_drop, List.length_take, i64_w]; done) | (simp only [List.length_drop, List.length_take, i64_w]; rfl) | (simp only [List.length_drop, List.length_take]; rfl) | (rw [i64_w]; rfl) | (rw [HM_45.out]; done) | (rw [HM_45.out]; rfl) | (rw [HM_48.out]; done) | (rw [HM_48.out]; rfl)) (impl_Crc.calls kj15 _ _ ((y9_.take ((wrap64 (15 + t148)) : Int).toNat).drop 15) t157 _ ?side1 ?side2 A42.out)).mono ?_)); (case side1 => repeat (first | exact (Kd.C_below HR154.out (by repeat (first | (with_reducible first | exact HB.out | apply below_alloc | apply pw_below_drewN | apply below_drew1) | exact HB.out))) | (with_reducible refine Kd.C_alloc ?_ _) | (with_reducible refine Kd.C_drewN ?_ _) | (with_reducible refine Kd.C_drew ?_))); (case side2 => exact HC154.out); rintro e w' ⟨rfl, ⟨nd, rfl⟩⟩; (try first | exact ⟨rfl, _, World.drewN_drewN _ _ _⟩ | exact ⟨rfl, _, Eq.trans (World.drewN_drewN _ _ _) (congrArg (World.drewN _) (Nat.add_assoc _ _ _))⟩))))
                                        refine bodyPost_ret (results_list (rs := [.tmp 4, .tmp 5, .tmp 6, .tmp 7]) rfl (by simp) (.tmp (.tmp (.tmp (.tmp .nil))))) rfl ?_
                                        exact ⟨_, by first | rfl | (simp [errW_none, errW_some] <;> rfl) | (simp [*, errW_none, errW_some] <;> rfl), by first | exact Kd.R_nil _ _ _ _ _ | exact Kd.N_nil _ _ _ _ _ | exact Kd.V_nil _ _ _ _ _ | exact Kd.Q_nil _ _ _ _ _ | exact Kd.S_nil _ _ _ _ _, by repeat (first | (with_reducible first | exact HB.out | apply below_alloc | apply pw_below_drewN | apply below_drew1) | exact HB.out)⟩
                                    · rw [if_neg c40] at H
                                      exact absurd H (by simp)
                                  · rw [if_neg c39] at H
                                    exact absurd H (by simp)
                                · rw [if_neg c38] at H
                                  exact absurd H (by simp)
                              · rw [if_neg c37] at H
                                exact absurd H (by simp)
                    · rw [if_neg c14] at H
                      exact absurd H (by simp)
                  · rw [if_neg c13] at H
                    exact absurd H (by simp)
                · rw [if_neg c11] at H
                  exact absurd H (by simp)
              · rw [if_neg c10] at H
                exact absurd H (by simp)
          · rw [if_neg c7] at H
            exact absurd H (by simp)
        · rw [if_neg c6] at H
          exact absurd H (by simp)

end Go.Proofs.Ytcpmdkopbhddkaa.PFnExactWhole
