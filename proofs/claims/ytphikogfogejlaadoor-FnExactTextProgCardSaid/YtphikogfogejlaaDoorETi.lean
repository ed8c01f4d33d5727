/- Contracts of functions of this seat's program. -/
import Derived.Test.YtphikogfogejlaaDoorETy
import Derived.Test.YtphikogfogejlaaDoorECt
namespace Go.Proofs.YtphikogfogejlaaDoor.E
set_option linter.unusedVariables false
set_option linter.unusedSimpArgs false
set_option maxHeartbeats 1600000
/-! An instruction out of its text. -/
def opScan (w : ByteArray) : Nat → Int
  | 0 => 0
  | n + 1 => if opWord (n + 1) = w then ((n + 1 : Nat) : Int) else opScan w n
theorem opScan_in (w : ByteArray) : ∀ n : Nat, n ≤ 15 → opScan w n = 0 ∨ (1 ≤ opScan w n ∧ opScan w n ≤ n ∧ opWord (opScan w n) = w)
  | 0, _ => .inl rfl
  | n + 1, h => by
    unfold opScan
    split
    · rename_i h1
      exact .inr ⟨by omega, Int.le_refl _, h1⟩
    · rcases opScan_in w n (by omega) with h1 | ⟨a, b, c⟩
      · exact .inl h1
      · exact .inr ⟨a, by omega, c⟩
def opsAll : List ByteArray := wordsL.drop 1
theorem opScan_no {w : ByteArray} {n : Nat} (h : ∀ k : Nat, k < n → opWord (k + 1) ≠ w) : opScan w n = 0 := by
  induction n with
  | zero => rfl
  | succ n ih => unfold opScan; rw [if_neg (h n (by omega))]; exact ih (fun k hk => h k (by omega))
theorem opWord_inj {a b : Nat} (ha : a < 15) (hb : b < 15) (h : opWord ((a : Int) + 1) = opWord ((b : Int) + 1)) : a = b := by
  have e : ∀ k : Nat, k < 15 → opWord ((k : Int) + 1) = wordsL.getD (k + 1) ⟨#[]⟩ := fun k hk => by
    unfold opWord
    rw [if_pos ⟨by omega, by omega⟩, show ((k : Int) + 1).toNat = k + 1 by omega]
  rw [e a ha, e b hb] at h
  have key : ∀ i : Fin 15, ∀ j : Fin 15, (wordsL.getD (i.val + 1) ⟨#[]⟩).data.toList = (wordsL.getD (j.val + 1) ⟨#[]⟩).data.toList → i = j := by decide
  have := key ⟨a, ha⟩ ⟨b, hb⟩ (by rw [h])
  exact congrArg Fin.val this
theorem opScan_hit {op : Int} (h : 1 ≤ op ∧ op ≤ 15) : ∀ n : Nat, op ≤ n → n ≤ 15 → opScan (opWord op) n = op
  | 0, h1, _ => by omega
  | n + 1, h1, h2 => by
    unfold opScan
    by_cases e : op = ((n + 1 : Nat) : Int)
    · rw [if_pos (by rw [e]; rfl)]; exact e.symm
    · have hne : ¬ opWord ((n : Int) + 1) = opWord op := by
        intro he
        have : op = ((op.toNat - 1 : Nat) : Int) + 1 := by omega
        rw [this] at he
        have := opWord_inj (a := n) (b := op.toNat - 1) (by omega) (by omega) he
        omega
      rw [if_neg hne]
      exact opScan_hit h n (by omega) (by omega)
/-- The word at a place, empty where there is none. -/
def wd (W : List ByteArray) (k : Nat) : ByteArray := W.getD k ⟨#[]⟩
def specV (W : List ByteArray) (j : Nat) : Int := if j + 1 < W.length then readW (wd W (j + 1)) nilW else 0
def specI (W : List ByteArray) : Y_Instr := (opScan (wd W 0) 15, specV W 0, specV W 1, specV W 2)
def zI : Y_Instr := (0, 0, 0, 0)
def textInstr (s : ByteArray) : Y_Instr × Bool := if s = ⟨#[]⟩ ∨ instrText (specI (cutB 32 s)) ≠ s then (zI, false) else (specI (cutB 32 s), true)
def rdI (W : List ByteArray) (k : Nat) : Int × Bool := if k = 0 ∧ isCh (opScan (wd W 0) 15) = true then textChan (wd W (k + 1)) else textNum (wd W (k + 1))
def implV (W : List ByteArray) (n j : Nat) : Int := if j < n then (rdI W j).1 else 0
def implI (W : List ByteArray) (n : Nat) : Y_Instr := (opScan (wd W 0) 15, implV W n 0, implV W n 1, implV W n 2)
def implOk (W : List ByteArray) : Prop := fieldsOf (opScan (wd W 0) 15) = (W.length : Int) - 1 ∧ ∀ k, k + 1 < W.length → (rdI W k).2 = true
theorem fields_pos {op : Int} (h : 0 ≤ fieldsOf op) : 1 ≤ op ∧ op ≤ 15 ∧ fieldsOf op ≤ 3 := by
  have := op_in (op := op) (by omega)
  omega
theorem wd_at {W : List ByteArray} {k : Nat} (h : k < W.length) : W[k]? = some (wd W k) := by
  unfold wd; rw [List.getD_eq_getElem?_getD, List.getElem?_eq_getElem h]; rfl
theorem rdI_val {W : List ByteArray} {k : Nat} (h : (rdI W k).2 = true) : wordOf (rdI W k).1 (k == 0 && isCh (opScan (wd W 0) 15)) nilW = wd W (k + 1) ∧ okW (rdI W k).1 (k == 0 && isCh (opScan (wd W 0) 15)) = true ∧ readW (wd W (k + 1)) nilW = (rdI W k).1 := by
  unfold rdI at h ⊢
  have num : (textNum (wd W (k + 1))).2 = true → ∀ c : Bool, wordOf (textNum (wd W (k + 1))).1 c nilW = wd W (k + 1) ∧ okW (textNum (wd W (k + 1))).1 c = true ∧ readW (wd W (k + 1)) nilW = (textNum (wd W (k + 1))).1 := by
    intro h c
    obtain ⟨h1, h2⟩ := textNum_ok h
    have hne : wd W (k + 1) ≠ nilW := by rw [← h2]; exact numText_nil
    refine ⟨?_, ?_, ?_⟩
    · unfold wordOf; rw [if_neg (by omega)]; exact h2
    · unfold okW; rw [decide_eq_true h1, Bool.or_true]
    · unfold readW; rw [if_neg hne]
  by_cases hc : k = 0 ∧ isCh (opScan (wd W 0) 15) = true
  · rw [if_pos hc] at h ⊢
    have hc' : (k == 0 && isCh (opScan (wd W 0) 15)) = true := by simp [hc.1, hc.2]
    rw [hc']
    unfold textChan at h ⊢
    by_cases hn : wd W (k + 1) = nilW
    · rw [if_pos hn]
      refine ⟨?_, rfl, ?_⟩
      · unfold wordOf; rw [if_pos ⟨rfl, rfl⟩, hn]
      · unfold readW; rw [if_pos hn]
    · rw [if_neg hn] at h ⊢
      exact num h true
  · rw [if_neg hc] at h ⊢
    exact num h _
theorem list_wd {W L : List ByteArray} (hl : W.length = L.length) (h : ∀ k, k < W.length → wd W k = wd L k) : W = L := by
  refine List.ext_getElem? fun k => ?_
  by_cases hk : k < W.length
  · rw [wd_at hk, wd_at (by omega), h k hk]
  · rw [List.getElem?_eq_none (by omega), List.getElem?_eq_none (by omega)]
theorem words_wd (i : Y_Instr) {n k : Nat} (h : k < n) : wd (words i n) (k + 1) = ws i k ∧ wd (words i n) 0 = opWord i.1 := by
  unfold wd words
  refine ⟨?_, rfl⟩
  rw [List.getD_eq_getElem?_getD, List.getElem?_cons_succ, List.getElem?_map, List.getElem?_range h]; rfl
theorem specV_of {W : List ByteArray} (h : implOk W) (j : Nat) : specV W j = implV W (W.length - 1) j := by
  unfold specV implV
  by_cases hj : j + 1 < W.length
  · rw [if_pos hj, if_pos (by omega)]
    exact (rdI_val (h.2 j hj)).2.2
  · rw [if_neg hj, if_neg (by omega)]
theorem impl_accepts {s : ByteArray} (h : implOk (cutB 32 s)) : textInstr s = (implI (cutB 32 s) ((cutB 32 s).length - 1), true) := by
  have hne := cutB_ne 32 s
  obtain ⟨W, hW⟩ : ∃ W, W = cutB 32 s := ⟨_, rfl⟩
  rw [← hW] at h hne ⊢
  have hlen : 1 ≤ W.length := by cases W; exact absurd rfl hne; simp
  have he : specI W = implI W (W.length - 1) := by
    unfold specI implI
    rw [specV_of h, specV_of h, specV_of h]
  obtain ⟨i, hi⟩ : ∃ i, i = implI W (W.length - 1) := ⟨_, rfl⟩
  have hop : i.1 = opScan (wd W 0) 15 := by rw [hi]; rfl
  have hf : fieldsOf i.1 = (W.length : Int) - 1 := by rw [hop]; exact h.1
  have hin := fields_pos (op := i.1) (by omega)
  have how : opWord i.1 = wd W 0 := by
    rw [hop] at hin ⊢
    rcases opScan_in (wd W 0) 15 (by decide) with h0 | ⟨_, _, h0⟩
    · omega
    · exact h0
  have hag : ∀ k, k < 3 → ag i k = implV W (W.length - 1) k := fun k hk => by
    have : k = 0 ∨ k = 1 ∨ k = 2 := by omega
    rw [hi]
    rcases this with rfl | rfl | rfl <;> rfl
  have hcj : ∀ k, cj i k = (k == 0 && isCh (opScan (wd W 0) 15)) := fun k => by unfold cj; rw [hop]
  have hk : ∀ k, k < W.length - 1 → ws i k = wd W (k + 1) ∧ okj i k = true := fun k hk => by
    have h3 : k < 3 := by omega
    have e : ag i k = (rdI W k).1 := by rw [hag k h3]; unfold implV; rw [if_pos hk]
    have := rdI_val (h.2 k (by omega))
    unfold ws okj
    rw [e, hcj]
    exact ⟨this.1, this.2.1⟩
  have hw : words i (fieldsOf i.1).toNat = W := by
    have e : (fieldsOf i.1).toNat = W.length - 1 := by omega
    rw [e]
    refine list_wd (by simp [words]; omega) (fun k hk' => ?_)
    have hl : (words i (W.length - 1)).length = W.length - 1 + 1 := by simp [words]
    cases k with
    | zero => exact how
    | succ k => rw [(words_wd i (by omega)).1]; exact (hk k (by omega)).1
  have ht : instrText i = s := by
    unfold instrText
    rw [if_neg (by
      rintro (h1 | h1)
      · omega
      · have : restOk i (fieldsOf i.1) = true := (restOk_iff (by omega) (by omega)).2 (fun j hj hk' => by rw [hag j hj]; unfold implV; rw [if_neg (by omega)])
        rw [this] at h1; cases h1)]
    rw [if_pos (List.all_eq_true.2 fun k hk' => (hk k (by have := List.mem_range.1 hk'; omega)).2), hw, hW]
    exact joinB_cutB 32 s
  unfold textInstr
  rw [← hW, he, ← hi]
  rw [if_neg]
  rintro (h1 | h1)
  · have h2 : W = [⟨#[]⟩] := by rw [hW, h1]; rfl
    have h3 : wd W 0 = ⟨#[]⟩ := by rw [h2]; rfl
    have h4 := opWord_size ⟨hin.1, hin.2.1⟩
    rw [how, h3] at h4
    exact absurd h4.1 (by decide)
  · exact h1 ht
theorem spec_accepts {s : ByteArray} (h : (textInstr s).2 = true) : implOk (cutB 32 s) := by
  unfold textInstr at h
  by_cases hc : s = ⟨#[]⟩ ∨ instrText (specI (cutB 32 s)) ≠ s
  · rw [if_pos hc] at h; cases h
  obtain ⟨W, hW⟩ : ∃ W, W = cutB 32 s := ⟨_, rfl⟩
  rw [← hW] at hc ⊢
  obtain ⟨i, hi⟩ : ∃ i, i = specI W := ⟨_, rfl⟩
  rw [← hi] at hc
  have hs : s ≠ ⟨#[]⟩ := fun e => hc (.inl e)
  have ht : instrText i = s := Classical.byContradiction fun e => hc (.inr e)
  unfold instrText at ht
  by_cases h1 : fieldsOf i.1 < 0 ∨ restOk i (fieldsOf i.1) = false
  · rw [if_pos h1] at ht; exact absurd ht.symm hs
  rw [if_neg h1] at ht
  by_cases h2 : (List.range (fieldsOf i.1).toNat).all (okj i) = true
  · rw [if_pos h2] at ht
    have hf : ¬ fieldsOf i.1 < 0 := fun e => h1 (.inl e)
    have hin := op_in hf
    have hno : ∀ w ∈ words i (fieldsOf i.1).toNat, noC 32 w := by
      intro w hw
      unfold words at hw
      rcases List.mem_cons.1 hw with rfl | hw
      · exact noC_op ⟨hin.1, hin.2.1⟩
      · obtain ⟨k, _, rfl⟩ := List.mem_map.1 hw
        exact noC_word (by decide) (by decide) _ _
    have hcut : W = words i (fieldsOf i.1).toNat := by
      rw [hW, ← ht]
      exact cutB_joinB 32 _ (by simp [words]) hno
    have hlen : (W.length : Int) = fieldsOf i.1 + 1 := by rw [hcut]; simp [words]; omega
    have hop : i.1 = opScan (wd W 0) 15 := by rw [hi]; rfl
    refine ⟨by rw [← hop]; omega, fun k hk => ?_⟩
    have hkf : k < (fieldsOf i.1).toNat := by omega
    have hwk : wd W (k + 1) = ws i k := by rw [hcut]; exact (words_wd i hkf).1
    have hok := List.all_eq_true.1 h2 k (List.mem_range.2 hkf)
    unfold rdI
    rw [← hop, hwk]
    have hnum : ∀ n : Int, decide (0 ≤ n ∧ n ≤ 4294967295) = true → (textNum (numText n)).2 = true := fun n hn => by rw [textNum_num (of_decide_eq_true hn)]
    unfold ws wordOf
    unfold okj okW at hok
    by_cases hck : k = 0 ∧ isCh i.1 = true
    · rw [if_pos hck]
      have hcj : cj i k = true := by unfold cj; simp [hck.1, hck.2]
      rw [hcj] at hok ⊢
      by_cases hm : ag i k = -1
      · rw [if_pos ⟨rfl, hm⟩]; unfold textChan; rw [if_pos rfl]
      · rw [if_neg (by rintro ⟨_, e⟩; exact hm e)]
        unfold textChan
        rw [if_neg numText_nil]
        have : (ag i k == -1) = false := by simpa using hm
        rw [this] at hok
        exact hnum _ (by simpa using hok)
    · rw [if_neg hck]
      have hcj : cj i k = false := by
        unfold cj
        by_cases hk0 : k = 0
        · have : isCh i.1 = false := by cases hx : isCh i.1; rfl; exact absurd ⟨hk0, hx⟩ hck
          rw [this, Bool.and_false]
        · simp [hk0]
      rw [hcj] at hok ⊢
      rw [if_neg (by rintro ⟨e, _⟩; cases e)]
      exact hnum _ (by simpa using hok)
  · rw [if_neg h2] at ht; exact absurd ht.symm hs
theorem textInstr_no {s : ByteArray} (h : ¬ implOk (cutB 32 s)) : textInstr s = (zI, false) := by
  cases h2 : (textInstr s).2 with
  | true => exact absurd (spec_accepts h2) h
  | false =>
    unfold textInstr at h2 ⊢
    split
    · rfl
    · rename_i h1; rw [if_neg h1] at h2; cases h2


end Go.Proofs.YtphikogfogejlaaDoor.E
