/- Contracts of functions of this seat's program. -/
import Derived.Test.YtphikogfogejlaaDoorETy
import Derived.Test.YtphikogfogejlaaDoorETn
namespace Go.Proofs.YtphikogfogejlaaDoor.E
set_option linter.unusedVariables false
set_option linter.unusedSimpArgs false
set_option maxHeartbeats 1600000
/-! What is joined and cut again. -/
theorem join_cut (c : UInt8) : ∀ l : List UInt8, Lib.join (cut c l) [c] = l
  | [] => by simp [cut, Lib.join_one]
  | b :: l => by
    have ih := join_cut c l
    have hp : ∀ (L : List (List UInt8)), L ≠ [] → Lib.join (pre [b] L) [c] = b :: Lib.join L [c] := by
      intro L h
      cases L with
      | nil => exact absurd rfl h
      | cons q r => simp [pre, Lib.join_cons]
    unfold cut
    split
    · rename_i h
      subst h
      cases hc : cut b l with
      | nil => exact absurd hc (cut_ne _ _)
      | cons q r =>
        rw [hc] at ih
        rw [Lib.join_cons] at ih ⊢
        simp [Lib.joinTail, ← ih]
    · rw [hp _ (cut_ne _ _), ih]
theorem cut_app (c : UInt8) (r : List UInt8) : ∀ w : List UInt8, c ∉ w → cut c (w ++ r) = pre w (cut c r)
  | [], _ => by rw [List.nil_append, pre_nil (cut_ne _ _)]
  | b :: w, h => by
    have h1 : ¬ b = c := fun e => h (by simp [e])
    have h2 : c ∉ w := fun e => h (by simp [e])
    rw [List.cons_append, cut, if_neg h1, cut_app c r w h2, pre_pre]; rfl
theorem cut_join (c : UInt8) : ∀ W : List (List UInt8), W ≠ [] → (∀ w ∈ W, c ∉ w) → cut c (Lib.join W [c]) = W
  | [], h, _ => absurd rfl h
  | [w], _, h => by
    have := cut_app c [] w (h w (by simp))
    rw [List.append_nil] at this
    rw [Lib.join_one, this]; simp [cut, pre]
  | w :: w2 :: r, _, h => by
    have ih := cut_join c (w2 :: r) (by simp) (fun x hx => h x (by simp [hx]))
    have e : Lib.join (w :: w2 :: r) [c] = w ++ (c :: Lib.join (w2 :: r) [c]) := by rw [Lib.join_cons, Lib.join_cons]; simp [Lib.joinTail]
    rw [e, cut_app c _ w (h w (by simp)), cut, if_pos rfl, ih]
    simp [pre]
theorem data_inj (a b : List UInt8) (h : a = b) : (⟨a.toArray⟩ : ByteArray) = ⟨b.toArray⟩ := by rw [h]
theorem joinB_cutB (c : UInt8) (s : ByteArray) : joinB (cutB c s) ⟨#[c]⟩ = s := by
  refine bx_ext ?_
  rw [joinB_data]
  unfold cutB
  rw [List.map_map]
  have : (fun x : ByteArray => x.data.toList) ∘ (fun l : List UInt8 => (⟨l.toArray⟩ : ByteArray)) = id := by funext l; simp
  rw [this, List.map_id]
  exact join_cut c _
def noC (c : UInt8) (w : ByteArray) : Prop := c ∉ w.data.toList
theorem cutB_joinB (c : UInt8) (W : List ByteArray) (h0 : W ≠ []) (h : ∀ w ∈ W, noC c w) : cutB c (joinB W ⟨#[c]⟩) = W := by
  unfold cutB
  rw [joinB_data]
  have e : (⟨#[c]⟩ : ByteArray).data.toList = [c] := rfl
  rw [e, cut_join c (W.map (·.data.toList)) (by simpa using h0) (fun w hw => by obtain ⟨x, hx, rfl⟩ := List.mem_map.1 hw; exact h x hx), List.map_map]
  have : (fun l : List UInt8 => (⟨l.toArray⟩ : ByteArray)) ∘ (fun x : ByteArray => x.data.toList) = id := by funext x; exact bx_ext (by simp)
  rw [this, List.map_id]
theorem noC_num {c : UInt8} (hc : isDg c = false) (n : Int) : noC c (numText n) := by
  intro h
  by_cases hr : 0 ≤ n ∧ n ≤ 4294967295
  · have := List.all_eq_true.1 (numText_dec hr).1 c h
    rw [hc] at this; cases this
  · unfold numText at h
    rw [if_neg hr] at h
    cases h
theorem numText_nil {n : Int} : numText n ≠ nilW := by
  intro h
  by_cases hr : 0 ≤ n ∧ n ≤ 4294967295
  · have := List.all_eq_true.1 (numText_dec hr).1 110 (by rw [h]; decide)
    revert this; decide
  · unfold numText at h
    rw [if_neg hr] at h
    have := congrArg ByteArray.size h
    revert this; decide
theorem noC_word {c : UInt8} (hc : isDg c = false) (hn : c ∉ nilW.data.toList) (n : Int) (b : Bool) : noC c (wordOf n b nilW) := by
  unfold wordOf
  split
  · exact hn
  · exact noC_num hc n
theorem opWord_cases {P : ByteArray → Prop} {op : Int} (h : 1 ≤ op ∧ op ≤ 15) (hp : ∀ k : Nat, k < 16 → 1 ≤ k → P (wordsL.getD k ⟨#[]⟩)) : P (opWord op) := by
  unfold opWord
  rw [if_pos h]
  exact hp op.toNat (by omega) (by omega)
theorem noC_op {op : Int} (h : 1 ≤ op ∧ op ≤ 15) : noC 32 (opWord op) := opWord_cases h (P := noC 32) (by
  intro k h1 h2
  have : k = 1 ∨ k = 2 ∨ k = 3 ∨ k = 4 ∨ k = 5 ∨ k = 6 ∨ k = 7 ∨ k = 8 ∨ k = 9 ∨ k = 10 ∨ k = 11 ∨ k = 12 ∨ k = 13 ∨ k = 14 ∨ k = 15 := by omega
  unfold noC
  rcases this with rfl | rfl | rfl | rfl | rfl | rfl | rfl | rfl | rfl | rfl | rfl | rfl | rfl | rfl | rfl <;> decide)


end Go.Proofs.YtphikogfogejlaaDoor.E
