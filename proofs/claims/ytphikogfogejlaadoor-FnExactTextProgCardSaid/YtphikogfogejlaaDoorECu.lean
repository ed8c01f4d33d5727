/- Contracts of functions of this seat's program. -/
import Derived.Test.YtphikogfogejlaaDoorETy
import Derived.Test.YtphikogfogejlaaDoorEA
import Derived.Lib.SplitLaws
namespace Go.Proofs.YtphikogfogejlaaDoor.E
set_option linter.unusedVariables false
set_option linter.unusedSimpArgs false
set_option maxHeartbeats 1600000
/-! Cutting a text at a byte. -/
theorem bx_ext {a b : ByteArray} (h : a.data.toList = b.data.toList) : a = b := by
  obtain ⟨⟨a⟩⟩ := a
  obtain ⟨⟨b⟩⟩ := b
  simp at h
  rw [h]
theorem beq_str (a b : ByteArray) : (a.toList == b.toList) = decide (a = b) := by
  rw [ByteArray.toList_eq, ByteArray.toList_eq]
  by_cases h : a = b
  · subst h; simp
  · rw [decide_eq_false h]
    cases hb : a.data.toList == b.data.toList
    · rfl
    · exact absurd (bx_ext (eq_of_beq hb)) h
def pre (p : List UInt8) : List (List UInt8) → List (List UInt8)
  | [] => [p]
  | q :: r => (p ++ q) :: r
def cut (c : UInt8) : List UInt8 → List (List UInt8)
  | [] => [[]]
  | b :: l => if b = c then [] :: cut c l else pre [b] (cut c l)
theorem pre_ne (p : List UInt8) (L : List (List UInt8)) : pre p L ≠ [] := by cases L <;> simp [pre]
theorem cut_ne (c : UInt8) (l : List UInt8) : cut c l ≠ [] := by
  cases l with
  | nil => simp [cut]
  | cons b l => unfold cut; split; · simp
                exact pre_ne _ _
theorem pre_pre (p q : List UInt8) (L : List (List UInt8)) : pre p (pre q L) = pre (p ++ q) L := by cases L <;> simp [pre]
theorem pre_nil {L : List (List UInt8)} (h : L ≠ []) : pre [] L = L := by cases L <;> simp_all [pre]
/-- The library's cutting at one byte. -/
theorem splitK_cut (c : UInt8) : ∀ l : List UInt8, Lib.splitK [c] 0 (Lib.count l [c]) l = cut c l
  | [] => by rw [Lib.count_one]; rfl
  | b :: l => by
    have ih := splitK_cut c l
    by_cases hb : b = c
    · subst hb
      rw [Lib.count_cons_eq, Nat.add_comm]
      have hi : Lib.index (b :: l) [b] = 0 := by simp [Lib.index]
      unfold cut
      rw [if_pos rfl, ← ih]
      simp [Lib.splitK, hi]
    · rw [Lib.count_cons_ne b c l hb]
      unfold cut
      rw [if_neg hb, ← ih]
      have hp : (List.isPrefixOf [c] (b :: l)) = false := by simp [List.isPrefixOf]; exact fun h => hb h.symm
      have hge := Lib.index_ge l [c]
      cases hk : Lib.count l [c] with
      | zero => simp [Lib.splitK, pre]
      | succ k =>
        by_cases h1 : Lib.index l [c] = -1
        · have hi : Lib.index (b :: l) [c] = -1 := by unfold Lib.index; rw [hp]; simp [h1]
          simp [Lib.splitK, hi, h1, pre]
        · obtain ⟨i, hi0⟩ : ∃ i : Nat, Lib.index l [c] = i := ⟨(Lib.index l [c]).toNat, by omega⟩
          have hi : Lib.index (b :: l) [c] = ((i + 1 : Nat) : Int) := by
            unfold Lib.index; rw [hp]
            have : (Lib.index l [c] == -1) = false := by simp [h1]
            simp only [this]; simp [hi0]
          have e1 : ¬ ((i : Int) = -1) := by omega
          have e2 : ¬ (((i + 1 : Nat) : Int) = -1) := by omega
          have e3 : (((i + 1 : Nat) : Int)).toNat = i + 1 := by omega
          simp only [Lib.splitK, hi, hi0, beq_iff_eq, e1, e2, e3, if_false, pre, Int.toNat_natCast, Nat.add_zero, List.take_succ_cons, List.singleton_append, List.length_singleton, List.drop_succ_cons]
def cutB (c : UInt8) (s : ByteArray) : List ByteArray := (cut c s.data.toList).map fun l => ⟨l.toArray⟩
theorem splitB_cut (c : UInt8) (s : ByteArray) : Lib.splitB ⟨#[c]⟩ 0 (Lib.countB s ⟨#[c]⟩) s = cutB c s := by
  have h := Lib.splitB_data ⟨#[c]⟩ 0 (Lib.countB s ⟨#[c]⟩) s
  have e : (Lib.splitB ⟨#[c]⟩ 0 (Lib.countB s ⟨#[c]⟩) s).map (·.data.toList) = cut c s.data.toList := by
    rw [h]; exact splitK_cut c _
  unfold cutB
  rw [← e, List.map_map]
  have : (fun l : List UInt8 => (⟨l.toArray⟩ : ByteArray)) ∘ (fun x : ByteArray => x.data.toList) = id := by funext x; exact bx_ext (by simp)
  rw [this, List.map_id]
theorem cut_len (c : UInt8) : ∀ l : List UInt8, (cut c l).length ≤ l.length + 1
  | [] => by simp [cut]
  | b :: l => by
    have := cut_len c l
    have hp : ∀ (p : List UInt8) (L : List (List UInt8)), L ≠ [] → (pre p L).length = L.length := by intro p L h; cases L <;> simp_all [pre]
    unfold cut
    split
    · simp; omega
    · rw [hp _ _ (cut_ne _ _)]; simp; omega
theorem cutB_len (c : UInt8) (s : ByteArray) : (cutB c s).length ≤ s.size + 1 := by
  have := cut_len c s.data.toList
  unfold cutB
  rw [List.length_map]
  simpa using this
theorem cutB_ne (c : UInt8) (s : ByteArray) : cutB c s ≠ [] := by
  unfold cutB
  intro h
  exact cut_ne c _ (List.map_eq_nil_iff.1 h)
/-- The pieces before place i, and the one that is open there. -/
def cutI (c : UInt8) (s : ByteArray) (i from_ : Nat) (out : List ByteArray) : Prop := from_ ≤ i ∧ out.length ≤ i ∧ cut c s.data.toList = out.map (·.data.toList) ++ pre ((s.data.toList.take i).drop from_) (cut c (s.data.toList.drop i))
theorem cutI_start (c : UInt8) (s : ByteArray) : cutI c s 0 0 [] := ⟨Nat.le_refl _, Nat.le_refl _, by simp [pre_nil (cut_ne _ _)]⟩
theorem ext_list (s : ByteArray) (l h : Nat) : (s.extract l h).data.toList = (s.data.toList.take h).drop l := by
  rw [ByteArray.data_extract, Array.toList_extract]; simp [List.extract_eq_take_drop, List.drop_take]
theorem ba_at {s : ByteArray} {i : Nat} (h : i < s.size) : s.data.toList[i]? = some s[i]! := by
  have h' : i < s.data.size := h
  rw [Array.getElem?_toList, Array.getElem?_eq_getElem h']
  rw [getElem!_pos s i h]; rfl
theorem cutI_hit {c : UInt8} {s : ByteArray} {i f : Nat} {out : List ByteArray} (h : cutI c s i f out) (hi : i < s.size) (hc : s[i]! = c) : cutI c s (i + 1) (i + 1) (out ++ [s.extract f i]) := by
  obtain ⟨h1, h2, h3⟩ := h
  refine ⟨Nat.le_refl _, by simp; omega, ?_⟩
  have hat := ba_at hi
  have hd : s.data.toList.drop i = s[i]! :: s.data.toList.drop (i + 1) := by
    rw [List.drop_eq_getElem_cons (by have : i < s.data.size := hi; simpa using this)]
    congr 1
    exact Option.some.inj ((List.getElem?_eq_getElem _).symm.trans hat)
  rw [h3, hd, hc]
  have e1 : (s.data.toList.take (i + 1)).drop (i + 1) = [] := List.drop_of_length_le (by rw [List.length_take]; omega)
  rw [e1, pre_nil (cut_ne _ _)]
  simp [cut, pre, ext_list, List.drop_take]
theorem cutI_miss {c : UInt8} {s : ByteArray} {i f : Nat} {out : List ByteArray} (h : cutI c s i f out) (hi : i < s.size) (hc : s[i]! ≠ c) : cutI c s (i + 1) f out := by
  obtain ⟨h1, h2, h3⟩ := h
  refine ⟨by omega, by omega, ?_⟩
  have hat := ba_at hi
  have hl : i < s.data.toList.length := by have : i < s.data.size := hi; simpa using this
  have hx : s.data.toList[i] = s[i]! := Option.some.inj ((List.getElem?_eq_getElem _).symm.trans hat)
  have hd : s.data.toList.drop i = s[i]! :: s.data.toList.drop (i + 1) := by
    rw [List.drop_eq_getElem_cons hl, hx]
  rw [h3, hd, cut, if_neg hc, pre_pre, List.take_succ_eq_append_getElem hl, List.drop_append_of_le_length (by simp; omega), hx]
theorem cutI_end {c : UInt8} {s : ByteArray} {f : Nat} {out : List ByteArray} (h : cutI c s s.size f out) : out ++ [s.extract f s.size] = cutB c s := by
  obtain ⟨h1, h2, h3⟩ := h
  have e : s.size = s.data.toList.length := by show s.data.size = _; simp
  have e2 : pre ((s.data.toList.take s.size).drop f) (cut c []) = [((s.data.toList.take s.size).drop f)] := by simp [cut, pre]
  have this : (fun l : List UInt8 => (⟨l.toArray⟩ : ByteArray)) ∘ (fun x : ByteArray => x.data.toList) = id := by funext x; exact bx_ext (by simp)
  unfold cutB
  rw [h3, List.drop_of_length_le (i := s.size) (l := s.data.toList) (by omega), e2, List.map_append, List.map_map, this, List.map_id]
  congr 1
  simp only [List.map_cons, List.map_nil, List.cons.injEq, and_true]
  exact bx_ext (by rw [ext_list])
theorem u8_eq {a b : UInt8} : (((a.toNat : Nat) : Int) == ((b.toNat : Nat) : Int)) = decide (a = b) := by
  by_cases h : a = b
  · subst h; simp
  · have : a.toNat ≠ b.toNat := fun e => h (UInt8.toNat_inj.1 e)
    rw [decide_eq_false h]; simp; omega
theorem s_Parts (s : ByteArray) (hs : s.size ≤ 1048576) : Spec Tryd.prog 25 [.ro (T.str s)] [.sl 1 ((cutB 32 s).map T.str)] := by
  refine fn Tryd.func25 ?_
  repeat (first | refine brT ?_ | refine brF ?_ | refine And.intro rfl ?_ | refine And.intro trivial ?_ | intro _)
  refine ⟨fun t ht => (by simp at ht), fun q0 => ?_⟩
  repeat (first | refine brT ?_ | refine brF ?_ | refine And.intro rfl ?_ | refine And.intro trivial ?_ | intro _)
  refine loopI (fun x : Nat × Nat × Nat × Nat × List ByteArray => ⟨32, [(0, .vv (.string s)), (3, .c (.own 7000 x.1)), (4, .int x.2.2.2.1), (5, .int x.2.2.1)], [(7000, .row x.1 x.2.1 1 (x.2.2.2.2.map T.str))]⟩) (fun x => s.size - x.2.2.1) (fun x => x.2.2.1 ≤ s.size ∧ cutI 32 s x.2.2.1 x.2.2.2.1 x.2.2.2.2) (q0, 0, 0, 0, []) ⟨Nat.zero_le _, cutI_start _ _⟩
    (wk rfl ⟨rfl, rfl, rfl, rfl, trivial⟩ ⟨rfl, trivial⟩) ?_
  rintro ⟨q, v, i, f, out⟩ ⟨hi, hI⟩
  simp only at hi hI
  have hf := hI.1
  have ho := hI.2.1
  repeat (first | refine brT ?_ | refine brF ?_ | refine And.intro rfl ?_ | refine And.intro trivial ?_ | intro _)
  refine brD (fun h => ?_) (fun h => ?_)
  · have hlt : i < s.size := by have h' : (i : Int) < (s.size : Int) := h; omega
    repeat (first | refine brT ?_ | refine brF ?_ | refine And.intro rfl ?_ | refine And.intro trivial ?_ | intro _)
    refine ⟨nn i, h, ?_⟩
    repeat (first | refine brT ?_ | refine brF ?_ | refine And.intro rfl ?_ | refine And.intro trivial ?_ | intro _)
    by_cases hc : s[i]! = 32
    · have e : (((s[((i : Int)).toNat]!).toNat : Int) == 32) = true := by
        have := @u8_eq s[i]! 32
        rw [decide_eq_true hc] at this
        exact this
      refine brR (by rw [e]; decide) (fun _ => ?_)
      repeat (first | refine brT ?_ | refine brF ?_ | refine And.intro rfl ?_ | refine And.intro trivial ?_ | intro _)
      refine ⟨nn f, ?_⟩
      refine ⟨nn i, ?_⟩
      refine ⟨by show f ≤ i; omega, by show i ≤ s.size; omega, ?_⟩
      repeat (first | refine brT ?_ | refine brF ?_ | refine And.intro rfl ?_ | refine And.intro trivial ?_ | intro _)
      refine ⟨fun t ht => (by simp at ht; subst ht; rfl), fun q1 => ?_⟩
      repeat (first | refine brT ?_ | refine brF ?_ | refine And.intro rfl ?_ | refine And.intro trivial ?_ | intro _)
      refine ⟨by simp; unfold bound; omega, fun q2 => ?_⟩
      repeat (first | refine brT ?_ | refine brF ?_ | refine And.intro rfl ?_ | refine And.intro trivial ?_ | intro _)
      refine nxt (q2, 0, i + 1, i + 1, out ++ [s.extract f i]) ⟨hlt, cutI_hit hI hlt hc⟩ (by show s.size - (i + 1) < s.size - i; omega) (wk rfl ⟨rfl, rfl, up1 hlt (by omega), up1 hlt (by omega), trivial⟩ ⟨gr rfl (by simp; rfl), trivial⟩)
    · have e : (((s[((i : Int)).toNat]!).toNat : Int) == 32) = false := by
        have := @u8_eq s[i]! 32
        rw [decide_eq_false hc] at this
        exact this
      refine brL (by rw [e]; decide) (fun _ => ?_)
      repeat (first | refine brT ?_ | refine brF ?_ | refine And.intro rfl ?_ | refine And.intro trivial ?_ | intro _)
      refine nxt (q, v, i + 1, f, out) ⟨hlt, cutI_miss hI hlt hc⟩ (by show s.size - (i + 1) < s.size - i; omega) (wk rfl ⟨rfl, rfl, rfl, up1 hlt (by omega), trivial⟩ ⟨rfl, trivial⟩)
  · have hge : i = s.size := by have h' : ¬ (i : Int) < (s.size : Int) := h; omega
    subst hge
    repeat (first | refine brT ?_ | refine brF ?_ | refine And.intro rfl ?_ | refine And.intro trivial ?_ | intro _)
    refine ⟨nn f, ?_⟩
    refine ⟨by show f ≤ s.size; omega, by show s.size ≤ s.size; omega, ?_⟩
    repeat (first | refine brT ?_ | refine brF ?_ | refine And.intro rfl ?_ | refine And.intro trivial ?_ | intro _)
    refine ⟨fun t ht => (by simp at ht; subst ht; rfl), fun q1 => ?_⟩
    repeat (first | refine brT ?_ | refine brF ?_ | refine And.intro rfl ?_ | refine And.intro trivial ?_ | intro _)
    refine ⟨by simp; unfold bound; omega, fun q2 => ?_⟩
    repeat (first | refine brT ?_ | refine brF ?_ | refine And.intro rfl ?_ | refine And.intro trivial ?_ | intro _)
    exact congrArg (fun z => [T.sl 1 z]) (by rw [← cutI_end hI]; simp; rfl)
theorem s_Colons (s : ByteArray) (hs : s.size ≤ 1048576) : Spec Tryd.prog 40 [.ro (T.str s)] [.sl 1 ((cutB 58 s).map T.str)] := by
  refine fn Tryd.func40 ?_
  repeat (first | refine brT ?_ | refine brF ?_ | refine And.intro rfl ?_ | refine And.intro trivial ?_ | intro _)
  refine ⟨fun t ht => (by simp at ht), fun q0 => ?_⟩
  repeat (first | refine brT ?_ | refine brF ?_ | refine And.intro rfl ?_ | refine And.intro trivial ?_ | intro _)
  refine loopI (fun x : Nat × Nat × Nat × Nat × List ByteArray => ⟨32, [(0, .vv (.string s)), (3, .c (.own 7000 x.1)), (4, .int x.2.2.2.1), (5, .int x.2.2.1)], [(7000, .row x.1 x.2.1 1 (x.2.2.2.2.map T.str))]⟩) (fun x => s.size - x.2.2.1) (fun x => x.2.2.1 ≤ s.size ∧ cutI 58 s x.2.2.1 x.2.2.2.1 x.2.2.2.2) (q0, 0, 0, 0, []) ⟨Nat.zero_le _, cutI_start _ _⟩
    (wk rfl ⟨rfl, rfl, rfl, rfl, trivial⟩ ⟨rfl, trivial⟩) ?_
  rintro ⟨q, v, i, f, out⟩ ⟨hi, hI⟩
  simp only at hi hI
  have hf := hI.1
  have ho := hI.2.1
  repeat (first | refine brT ?_ | refine brF ?_ | refine And.intro rfl ?_ | refine And.intro trivial ?_ | intro _)
  refine brD (fun h => ?_) (fun h => ?_)
  · have hlt : i < s.size := by have h' : (i : Int) < (s.size : Int) := h; omega
    repeat (first | refine brT ?_ | refine brF ?_ | refine And.intro rfl ?_ | refine And.intro trivial ?_ | intro _)
    refine ⟨nn i, h, ?_⟩
    repeat (first | refine brT ?_ | refine brF ?_ | refine And.intro rfl ?_ | refine And.intro trivial ?_ | intro _)
    by_cases hc : s[i]! = 58
    · have e : (((s[((i : Int)).toNat]!).toNat : Int) == 58) = true := by
        have := @u8_eq s[i]! 58
        rw [decide_eq_true hc] at this
        exact this
      refine brR (by rw [e]; decide) (fun _ => ?_)
      repeat (first | refine brT ?_ | refine brF ?_ | refine And.intro rfl ?_ | refine And.intro trivial ?_ | intro _)
      refine ⟨nn f, ?_⟩
      refine ⟨nn i, ?_⟩
      refine ⟨by show f ≤ i; omega, by show i ≤ s.size; omega, ?_⟩
      repeat (first | refine brT ?_ | refine brF ?_ | refine And.intro rfl ?_ | refine And.intro trivial ?_ | intro _)
      refine ⟨fun t ht => (by simp at ht; subst ht; rfl), fun q1 => ?_⟩
      repeat (first | refine brT ?_ | refine brF ?_ | refine And.intro rfl ?_ | refine And.intro trivial ?_ | intro _)
      refine ⟨by simp; unfold bound; omega, fun q2 => ?_⟩
      repeat (first | refine brT ?_ | refine brF ?_ | refine And.intro rfl ?_ | refine And.intro trivial ?_ | intro _)
      refine nxt (q2, 0, i + 1, i + 1, out ++ [s.extract f i]) ⟨hlt, cutI_hit hI hlt hc⟩ (by show s.size - (i + 1) < s.size - i; omega) (wk rfl ⟨rfl, rfl, up1 hlt (by omega), up1 hlt (by omega), trivial⟩ ⟨gr rfl (by simp; rfl), trivial⟩)
    · have e : (((s[((i : Int)).toNat]!).toNat : Int) == 58) = false := by
        have := @u8_eq s[i]! 58
        rw [decide_eq_false hc] at this
        exact this
      refine brL (by rw [e]; decide) (fun _ => ?_)
      repeat (first | refine brT ?_ | refine brF ?_ | refine And.intro rfl ?_ | refine And.intro trivial ?_ | intro _)
      refine nxt (q, v, i + 1, f, out) ⟨hlt, cutI_miss hI hlt hc⟩ (by show s.size - (i + 1) < s.size - i; omega) (wk rfl ⟨rfl, rfl, rfl, up1 hlt (by omega), trivial⟩ ⟨rfl, trivial⟩)
  · have hge : i = s.size := by have h' : ¬ (i : Int) < (s.size : Int) := h; omega
    subst hge
    repeat (first | refine brT ?_ | refine brF ?_ | refine And.intro rfl ?_ | refine And.intro trivial ?_ | intro _)
    refine ⟨nn f, ?_⟩
    refine ⟨by show f ≤ s.size; omega, by show s.size ≤ s.size; omega, ?_⟩
    repeat (first | refine brT ?_ | refine brF ?_ | refine And.intro rfl ?_ | refine And.intro trivial ?_ | intro _)
    refine ⟨fun t ht => (by simp at ht; subst ht; rfl), fun q1 => ?_⟩
    repeat (first | refine brT ?_ | refine brF ?_ | refine And.intro rfl ?_ | refine And.intro trivial ?_ | intro _)
    refine ⟨by simp; unfold bound; omega, fun q2 => ?_⟩
    repeat (first | refine brT ?_ | refine brF ?_ | refine And.intro rfl ?_ | refine And.intro trivial ?_ | intro _)
    exact congrArg (fun z => [T.sl 1 z]) (by rw [← cutI_end hI]; simp; rfl)


end Go.Proofs.YtphikogfogejlaaDoor.E
