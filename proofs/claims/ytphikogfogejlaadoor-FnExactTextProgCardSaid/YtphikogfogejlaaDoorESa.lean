/- Contracts of functions of this seat's program. -/
import Derived.Test.YtphikogfogejlaaDoorETy
import Derived.Test.YtphikogfogejlaaDoorETi
import Derived.Test.YtphikogfogejlaaDoorEMd
namespace Go.Proofs.YtphikogfogejlaaDoor.E
set_option linter.unusedVariables false
set_option linter.unusedSimpArgs false
set_option maxHeartbeats 1600000
/-! A case and a select out of their texts: what is read, and when it is taken. -/
theorem cut_mem (c : UInt8) : ∀ (l w : List UInt8), w ∈ cut c l → w.length ≤ l.length
  | [], w, h => by simp [cut] at h; simp [h]
  | b :: l, w, h => by
    have ih := cut_mem c l
    unfold cut at h
    split at h
    · rcases List.mem_cons.1 h with rfl | h
      · exact Nat.zero_le _
      · have := ih w h; simp; omega
    · cases hc : cut c l with
      | nil => exact absurd hc (cut_ne _ _)
      | cons q r =>
        rw [hc] at h ih
        simp only [pre, List.mem_cons] at h
        rcases h with rfl | h
        · have := ih q (by simp); simp; omega
        · have := ih w (by simp [h]); simp; omega
theorem cutB_mem {c : UInt8} {s w : ByteArray} (h : w ∈ cutB c s) : w.size ≤ s.size := by
  unfold cutB at h
  obtain ⟨l, hl, rfl⟩ := List.mem_map.1 h
  have := cut_mem c _ _ hl
  show l.toArray.size ≤ s.data.size
  simpa using this
theorem wd_mem {c : UInt8} {s : ByteArray} (k : Nat) : (wd (cutB c s) k).size ≤ s.size := by
  by_cases hk : k < (cutB c s).length
  · have := wd_at hk
    exact cutB_mem (List.mem_of_getElem? this)
  · unfold wd; rw [List.getD_eq_getElem?_getD, List.getElem?_eq_none (by omega)]; exact Nat.zero_le _
abbrev e0 : ByteArray := ⟨#[]⟩
def zC : Y_Case := (false, 0, 0, 0, 0)
def caseOf (W : List ByteArray) : Y_Case := (decide (wd W 0 = sendW), readW (wd W 1) nilW, readW (wd W 2) e0, if wd W 0 = sendW then 0 else readW (wd W 3) e0, if wd W 0 = sendW then readW (wd W 3) e0 else readW (wd W 4) e0)
def textCase (w : ByteArray) : Y_Case × Bool := if caseT (caseOf (cutB 58 w)) = w ∧ w ≠ e0 then (caseOf (cutB 58 w), true) else (zC, false)
def caseIn (W : List ByteArray) : Prop := (wd W 0 = sendW ∨ wd W 0 = recvW) ∧ W.length = (if wd W 0 = sendW then 4 else 5) ∧ (textChan (wd W 1)).2 = true ∧ ∀ k, k + 2 < W.length → (textNum (wd W (k + 2))).2 = true
theorem num_val {p : ByteArray} (h : (textNum p).2 = true) : numText (textNum p).1 = p ∧ isNb (textNum p).1 = true ∧ readW p e0 = (textNum p).1 := by
  obtain ⟨h1, h2⟩ := textNum_ok h
  refine ⟨h2, decide_eq_true h1, ?_⟩
  unfold readW
  rw [if_neg]
  intro e
  have := numText_pos h1
  rw [h2, e] at this
  exact absurd this.1 (by decide)
theorem chan_val {p : ByteArray} (h : (textChan p).2 = true) : wordOf (textChan p).1 true nilW = p ∧ okW (textChan p).1 true = true ∧ readW p nilW = (textChan p).1 := by
  unfold textChan at h ⊢
  by_cases hn : p = nilW
  · rw [if_pos hn]
    refine ⟨?_, rfl, ?_⟩
    · unfold wordOf; rw [if_pos ⟨rfl, rfl⟩, hn]
    · unfold readW; rw [if_pos hn]
  · rw [if_neg hn] at h ⊢
    obtain ⟨h1, h2⟩ := textNum_ok h
    refine ⟨?_, ?_, ?_⟩
    · unfold wordOf; rw [if_neg (by omega)]; exact h2
    · unfold okW; rw [decide_eq_true h1, Bool.or_true]
    · unfold readW; rw [if_neg hn]
theorem chan_of {n : Int} (h : okW n true = true) : textChan (wordOf n true nilW) = (n, true) := by
  unfold wordOf
  by_cases hm : n = -1
  · rw [if_pos ⟨rfl, hm⟩]; unfold textChan; rw [if_pos rfl, hm]
  · rw [if_neg (fun e => hm e.2)]
    unfold textChan
    rw [if_neg numText_nil]
    unfold okW at h
    have : (n == -1) = false := by simpa using hm
    rw [this] at h
    exact textNum_num (by simpa using h)
theorem num_of {n : Int} (h : isNb n = true) : textNum (numText n) = (n, true) := textNum_num (of_decide_eq_true h)
theorem case_yes {w : ByteArray} (h : caseIn (cutB 58 w)) : caseT (caseOf (cutB 58 w)) = w ∧ w ≠ e0 ∧ (caseOf (cutB 58 w)).2.1 = (textChan (wd (cutB 58 w) 1)).1 ∧ (∀ k, k + 2 < (cutB 58 w).length → readW (wd (cutB 58 w) (k + 2)) e0 = (textNum (wd (cutB 58 w) (k + 2))).1) := by
  have hj := joinB_cutB 58 w
  obtain ⟨W, hW⟩ : ∃ W, W = cutB 58 w := ⟨_, rfl⟩
  rw [← hW] at h hj ⊢
  obtain ⟨h0, h1, h2, h3⟩ := h
  have c1 := chan_val h2
  have hn : ∀ k, k + 2 < W.length → numText (textNum (wd W (k + 2))).1 = wd W (k + 2) ∧ isNb (textNum (wd W (k + 2))).1 = true ∧ readW (wd W (k + 2)) e0 = (textNum (wd W (k + 2))).1 := fun k hk => num_val (h3 k hk)
  have hne : w ≠ e0 := by
    intro e
    rw [e] at hW
    have : wd W 0 = e0 := by rw [hW]; rfl
    rw [this] at h0
    rcases h0 with h0 | h0 <;> exact absurd (congrArg ByteArray.size h0) (by decide)
  refine ⟨?_, hne, c1.2.2, fun k hk => (hn k hk).2.2⟩
  have z0 : isNb 0 = true := rfl
  by_cases hs : wd W 0 = sendW
  · rw [if_pos hs] at h1
    have n0 := hn 0 (by omega)
    have n1 := hn 1 (by omega)
    simp only [Nat.zero_add, Nat.reduceAdd] at n0 n1
    have hc : caseOf W = (true, (textChan (wd W 1)).1, (textNum (wd W 2)).1, 0, (textNum (wd W 3)).1) := by
      unfold caseOf
      rw [if_pos hs, if_pos hs, decide_eq_true hs, c1.2.2, n0.2.2, n1.2.2]
    rw [hc]
    unfold caseT caseFit cw
    simp only [c1.1, c1.2.1, n0.1, n0.2.1, n1.1, n1.2.1, z0]
    have hl : W = [sendW, wd W 1, wd W 2, wd W 3] := list_wd (by simp [h1]) (fun k hk => by
      have : k = 0 ∨ k = 1 ∨ k = 2 ∨ k = 3 := by omega
      rcases this with rfl | rfl | rfl | rfl
      · exact hs
      all_goals rfl)
    rw [← hl]
    simp [hj]
  · rw [if_neg hs] at h1
    have hr : wd W 0 = recvW := h0.resolve_left hs
    have n0 := hn 0 (by omega)
    have n1 := hn 1 (by omega)
    have n2 := hn 2 (by omega)
    simp only [Nat.zero_add, Nat.reduceAdd] at n0 n1 n2
    have hc : caseOf W = (false, (textChan (wd W 1)).1, (textNum (wd W 2)).1, (textNum (wd W 3)).1, (textNum (wd W 4)).1) := by
      unfold caseOf
      rw [if_neg hs, if_neg hs, decide_eq_false hs, c1.2.2, n0.2.2, n1.2.2, n2.2.2]
    rw [hc]
    unfold caseT caseFit cw
    simp only [c1.1, c1.2.1, n0.1, n0.2.1, n1.1, n1.2.1, n2.1, n2.2.1]
    have hl : W = [recvW, wd W 1, wd W 2, wd W 3, wd W 4] := list_wd (by simp [h1]) (fun k hk => by
      have : k = 0 ∨ k = 1 ∨ k = 2 ∨ k = 3 ∨ k = 4 := by omega
      rcases this with rfl | rfl | rfl | rfl | rfl
      · exact hr
      all_goals rfl)
    rw [← hl]
    simp [hj]
theorem case_no {w : ByteArray} (h : caseT (caseOf (cutB 58 w)) = w) (hne : w ≠ e0) : caseIn (cutB 58 w) := by
  obtain ⟨W, hW⟩ : ∃ W, W = cutB 58 w := ⟨_, rfl⟩
  rw [← hW] at h ⊢
  obtain ⟨c, hc⟩ : ∃ c, c = caseOf W := ⟨_, rfl⟩
  rw [← hc] at h
  have hsend : c.1 = decide (wd W 0 = sendW) := by rw [hc]; rfl
  have nw : ∀ n : Int, noC 58 (numText n) := fun n => noC_num (by decide) n
  have nc : noC 58 (cw c) := noC_word (by decide) (by decide) _ _
  unfold caseT at h
  by_cases hf : caseFit c = false
  · rw [if_pos hf] at h; exact absurd h.symm hne
  rw [if_neg hf] at h
  have hf : caseFit c = true := by simpa using hf
  unfold caseFit at hf
  simp only [Bool.and_eq_true] at hf
  obtain ⟨⟨⟨⟨f1, f2⟩, f3⟩, f4⟩, _⟩ := hf
  have t1 : (textChan (cw c)).2 = true := by unfold cw; rw [chan_of f1]
  have t2 := fun (n : Int) (hn : isNb n = true) => show (textNum (numText n)).2 = true by rw [num_of hn]
  by_cases hs : c.1 = true
  · rw [if_pos hs] at h
    have hl : W = [sendW, cw c, numText c.2.2.1, numText c.2.2.2.2] := by
      rw [hW, ← h]
      refine cutB_joinB 58 _ (by simp) (fun x hx => ?_)
      simp only [List.mem_cons, List.not_mem_nil, or_false] at hx
      rcases hx with rfl | rfl | rfl | rfl
      · exact (by decide : (58 : UInt8) ∉ sendW.data.toList)
      · exact nc
      · exact nw _
      · exact nw _
    rw [hl]
    refine ⟨.inl rfl, (show (4 : Nat) = (if sendW = sendW then 4 else 5) from (if_pos rfl).symm), t1, fun k hk => ?_⟩
    have : k = 0 ∨ k = 1 := by simp at hk; omega
    rcases this with rfl | rfl
    · exact t2 _ f2
    · exact t2 _ f4
  · rw [if_neg hs] at h
    have hl : W = [recvW, cw c, numText c.2.2.1, numText c.2.2.2.1, numText c.2.2.2.2] := by
      rw [hW, ← h]
      refine cutB_joinB 58 _ (by simp) (fun x hx => ?_)
      simp only [List.mem_cons, List.not_mem_nil, or_false] at hx
      rcases hx with rfl | rfl | rfl | rfl | rfl
      · exact (by decide : (58 : UInt8) ∉ recvW.data.toList)
      · exact nc
      · exact nw _
      · exact nw _
      · exact nw _
    have hrs : ¬ recvW = sendW := fun e => absurd (congrArg (fun x : ByteArray => x.data.toList) e) (by decide)
    rw [hl]
    refine ⟨.inr rfl, (show (5 : Nat) = (if recvW = sendW then 4 else 5) from (if_neg hrs).symm), t1, fun k hk => ?_⟩
    have : k = 0 ∨ k = 1 ∨ k = 2 := by simp at hk; omega
    rcases this with rfl | rfl | rfl
    · exact t2 _ f2
    · exact t2 _ f3
    · exact t2 _ f4
theorem textCase_yes {w : ByteArray} (h : caseIn (cutB 58 w)) : textCase w = (caseOf (cutB 58 w), true) := by
  have := case_yes h
  unfold textCase; rw [if_pos ⟨this.1, this.2.1⟩]
theorem textCase_no {w : ByteArray} (h : ¬ caseIn (cutB 58 w)) : textCase w = (zC, false) := by
  unfold textCase; rw [if_neg (fun e => h (case_no e.1 e.2))]

/-! selects -/
abbrev zS : Y_Select := ([], 0)
def selOf (W : List ByteArray) : Y_Select := ((W.drop 2).map fun w => caseOf (cutB 58 w), readW (wd W 1) dash)
def textSelect (s : ByteArray) : Y_Select × Bool := if 2 ≤ (cutB 32 s).length ∧ selText (selOf (cutB 32 s)) = s then (selOf (cutB 32 s), true) else (zS, false)
def selIn (W : List ByteArray) : Prop := 2 ≤ W.length ∧ wd W 0 = selW ∧ (wd W 1 = dash ∨ (textNum (wd W 1)).2 = true) ∧ ∀ w ∈ W.drop 2, (textCase w).2 = true
theorem noC_join {c : UInt8} {d : ByteArray} (hd : noC c d) : ∀ (W : List ByteArray), (∀ w ∈ W, noC c w) → noC c (joinB W d)
  | [], _ => by unfold noC; rw [joinB_data]; simp [Lib.join]
  | [x], h => by rw [joinB_one]; exact h x (by simp)
  | x :: y :: r, h => by
    have ih := noC_join hd (y :: r) (fun w hw => h w (by simp [hw]))
    have e : (joinB (x :: y :: r) d).data.toList = x.data.toList ++ (d.data.toList ++ (joinB (y :: r) d).data.toList) := by
      rw [joinB_data, joinB_data, List.map_cons, List.map_cons, Lib.join_cons, Lib.join_cons]; simp [Lib.joinTail]
    unfold noC at ih ⊢
    rw [e]
    intro hm
    rcases List.mem_append.1 hm with hm | hm
    · exact h x (by simp) hm
    rcases List.mem_append.1 hm with hm | hm
    · exact hd hm
    · exact ih hm
theorem noC_case (c : Y_Case) : noC 32 (caseT c) := by
  have nw : ∀ n : Int, noC 32 (numText n) := fun n => noC_num (by decide) n
  have nc : noC 32 (cw c) := noC_word (by decide) (by decide) _ _
  have dc : noC 32 colon := (by decide : (32 : UInt8) ∉ colon.data.toList)
  unfold caseT
  split
  · exact (by decide : (32 : UInt8) ∉ (⟨#[]⟩ : ByteArray).data.toList)
  split
  · refine noC_join dc _ (fun x hx => ?_)
    simp only [List.mem_cons, List.not_mem_nil, or_false] at hx
    rcases hx with rfl | rfl | rfl | rfl
    · exact (by decide : (32 : UInt8) ∉ sendW.data.toList)
    · exact nc
    · exact nw _
    · exact nw _
  · refine noC_join dc _ (fun x hx => ?_)
    simp only [List.mem_cons, List.not_mem_nil, or_false] at hx
    rcases hx with rfl | rfl | rfl | rfl | rfl
    · exact (by decide : (32 : UInt8) ∉ recvW.data.toList)
    · exact nc
    · exact nw _
    · exact nw _
    · exact nw _
theorem noC_sw (s : Y_Select) : noC 32 (sw s) := by
  unfold sw wordOf
  split
  · exact (by decide : (32 : UInt8) ∉ dash.data.toList)
  · exact noC_num (by decide) _
theorem selL_eq (s : Y_Select) : selL s s.1.length = selW :: sw s :: s.1.map caseT := by unfold selL; rw [List.take_length]
theorem isE_ne {w : ByteArray} : isE w = false ↔ w ≠ e0 := by
  rw [isE_iff]
  constructor
  · intro h e; rw [e] at h; cases h
  · intro h
    refine decide_eq_false (fun e => h ?_)
    refine bx_ext ?_
    have : w.data.toList.length = 0 := by rw [Array.length_toList]; exact e
    rw [List.length_eq_zero_iff.1 this]
theorem sel_yes {s : ByteArray} (h : selIn (cutB 32 s)) : selText (selOf (cutB 32 s)) = s := by
  have hj := joinB_cutB 32 s
  obtain ⟨W, hW⟩ : ∃ W, W = cutB 32 s := ⟨_, rfl⟩
  rw [← hW] at h hj ⊢
  obtain ⟨h0, h1, h2, h3⟩ := h
  have hc : ∀ w ∈ W.drop 2, caseT (caseOf (cutB 58 w)) = w ∧ w ≠ e0 := fun w hw => by
    have := h3 w hw
    unfold textCase at this
    by_cases e : caseT (caseOf (cutB 58 w)) = w ∧ w ≠ e0
    · exact e
    · rw [if_neg e] at this; cases this
  obtain ⟨x, hx⟩ : ∃ x, x = selOf W := ⟨_, rfl⟩
  have x2 : x.2 = readW (wd W 1) dash := by rw [hx]; rfl
  have hs : sw x = wd W 1 ∧ okW x.2 true = true := by
    unfold sw wordOf okW
    rw [x2]
    unfold readW
    by_cases hd : wd W 1 = dash
    · rw [if_pos hd, if_pos ⟨rfl, rfl⟩]; exact ⟨hd.symm, rfl⟩
    · rw [if_neg hd]
      obtain ⟨a, b⟩ := textNum_ok (h2.resolve_left hd)
      rw [if_neg (by omega), decide_eq_true a, Bool.or_true]
      exact ⟨b, rfl⟩
  have hm : x.1.map caseT = W.drop 2 := by
    rw [hx]
    show ((W.drop 2).map _).map caseT = _
    rw [List.map_map]
    conv => rhs; rw [← List.map_id (W.drop 2)]
    exact List.map_congr_left (fun w hw => (hc w hw).1)
  have hl : selL x x.1.length = W := by
    rw [selL_eq, hm, hs.1]
    refine list_wd (by simp; omega) (fun k hk => ?_)
    match k with
    | 0 => exact h1.symm
    | 1 => rfl
    | k + 2 =>
      show (selW :: wd W 1 :: W.drop 2).getD (k + 2) e0 = W.getD (k + 2) e0
      simp only [List.getD_eq_getElem?_getD, List.getElem?_cons_succ, List.getElem?_drop, Nat.add_comm 2 k]
  unfold selText
  rw [← hx]
  unfold joined
  rw [if_neg, hl, hj]
  rw [sel_any, hs.2]
  intro ha
  obtain ⟨c, hcm, h2⟩ := List.any_eq_true.1 (by simpa using ha : x.1.any (fun c => isE (caseT c)) = true)
  have : caseT c ∈ W.drop 2 := by rw [← hm]; exact List.mem_map_of_mem hcm
  rw [isE_ne.2 (hc _ this).2] at h2
  cases h2
theorem sel_no {s : ByteArray} (h0 : 2 ≤ (cutB 32 s).length) (h : selText (selOf (cutB 32 s)) = s) : selIn (cutB 32 s) := by
  have hne : s ≠ e0 := by
    intro e
    rw [e] at h0
    exact absurd (show 2 ≤ (1 : Nat) from h0) (by decide)
  obtain ⟨W, hW⟩ : ∃ W, W = cutB 32 s := ⟨_, rfl⟩
  rw [← hW] at h h0 ⊢
  obtain ⟨x, hx⟩ : ∃ x, x = selOf W := ⟨_, rfl⟩
  rw [← hx] at h
  unfold selText joined at h
  by_cases ha : (selL x x.1.length).any isE = true
  · rw [if_pos ha] at h; exact absurd h.symm hne
  rw [if_neg ha] at h
  have ha : (!okW x.2 true || x.1.any (fun c => isE (caseT c))) = false := by rw [← sel_any]; simpa using ha
  simp only [Bool.or_eq_false_iff, Bool.not_eq_false'] at ha
  have hl : W = selW :: sw x :: x.1.map caseT := by
    rw [hW, ← h, selL_eq]
    refine cutB_joinB 32 _ (by simp) (fun y hy => ?_)
    simp only [List.mem_cons, List.mem_map] at hy
    rcases hy with rfl | rfl | ⟨c, _, rfl⟩
    · exact (by decide : (32 : UInt8) ∉ selW.data.toList)
    · exact noC_sw x
    · exact noC_case c
  have hx1 : x.1 = (W.drop 2).map fun w => caseOf (cutB 58 w) := by rw [hx]; rfl
  refine ⟨h0, by rw [hl]; rfl, ?_, fun w hw => ?_⟩
  · have : wd W 1 = sw x := by rw [hl]; rfl
    rw [this]
    unfold sw wordOf
    by_cases hm : x.2 = -1
    · rw [if_pos ⟨rfl, hm⟩]; exact .inl rfl
    · rw [if_neg (fun e => hm e.2)]
      have h1 := ha.1
      unfold okW at h1
      have hm' : (x.2 == -1) = false := by simpa using hm
      rw [hm'] at h1
      exact .inr (by rw [textNum_num (by simpa using h1)])
  · have hd : W.drop 2 = x.1.map caseT := by
      conv => lhs; rw [hl]
      rfl
    obtain ⟨k, hk, rfl⟩ := List.mem_iff_getElem.1 hw
    have e1 : (W.drop 2)[k] = caseT (caseOf (cutB 58 (W.drop 2)[k])) := by
      have a1 : (W.drop 2)[k]? = ((W.drop 2).map fun w => caseT (caseOf (cutB 58 w)))[k]? := by
        conv => lhs; rw [hd, hx1, List.map_map]
        rfl
      rw [List.getElem?_map, List.getElem?_eq_getElem hk] at a1
      exact Option.some.inj a1
    have e2 : isE (W.drop 2)[k] = false := by
      have hmem : (W.drop 2)[k] ∈ x.1.map caseT := by rw [← hd]; exact List.getElem_mem hk
      obtain ⟨c, hcm, hce⟩ := List.mem_map.1 hmem
      rw [← hce]
      cases hb : isE (caseT c) with
      | false => rfl
      | true =>
        have : x.1.any (fun c => isE (caseT c)) = true := List.any_eq_true.2 ⟨c, hcm, hb⟩
        rw [ha.2] at this; cases this
    unfold textCase
    rw [if_pos ⟨e1.symm, isE_ne.1 e2⟩]
theorem textSelect_yes {s : ByteArray} (h : selIn (cutB 32 s)) : textSelect s = (selOf (cutB 32 s), true) := by
  unfold textSelect; rw [if_pos ⟨h.1, sel_yes h⟩]
theorem textSelect_no {s : ByteArray} (h : ¬ selIn (cutB 32 s)) : textSelect s = (zS, false) := by
  unfold textSelect; rw [if_neg (fun e => h (sel_no e.1 e.2))]


end Go.Proofs.YtphikogfogejlaaDoor.E
