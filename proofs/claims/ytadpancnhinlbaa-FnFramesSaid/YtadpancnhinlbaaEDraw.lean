/- A region whose order is open. -/
import Derived.Test.YtadpancnhinlbaaESlc
namespace Go.Proofs.Ytadpancnhinlbaa.E
set_option linter.unusedVariables false
set_option linter.unusedSimpArgs false
section
variable {P : Program} {C : Ctx} {G : Gh} {w : World} {s : St} {a : Act} {K : St → Prop}

theorem aop_sound {o : Oper} {Q : Exit → Act → World → Prop} (hC : CtxOk P C) (hs : Sim G s a w) (hd : okDst o.dst s.n = true) (h : aop C o.op o.dst s K) : o.wp P a w (After G K) Q := by
  cases ho : o.op with
  | move x => rw [ho] at h; exact op_move (.inl ho) hs hd h
  | assign x => rw [ho] at h; exact op_move (.inr ho) hs hd h
  | pick c x y => rw [ho] at h; exact op_pick ho hs hd h
  | alloc t => rw [ho] at h; exact op_alloc ho hC hs hd h
  | box t x => rw [ho] at h; exact op_box ho hs hd h
  | build t ps => rw [ho] at h; exact op_build ho hC hs hd h
  | buildSlice t n ps => rw [ho] at h; exact op_buildSlice ho hC hs hd h
  | load t p => rw [ho] at h; exact op_load ho hC hs hd h
  | store t p x => rw [ho] at h; exact op_store ho hC hs hd h
  | nilCheck x => rw [ho] at h; exact op_nilCheck ho hs hd h
  | binOp op t x y t' => rw [ho] at h; exact op_bin ho hC hs hd h
  | unOp op t x => rw [ho] at h; exact op_un ho hs hd h
  | convert t t' x => rw [ho] at h; exact op_conv2 ho hC hs hd h
  | makeSlice t x y => rw [ho] at h; exact op_makeSlice ho hC hs hd h
  | fieldAddr t x f => rw [ho] at h; exact op_fieldAddr ho hC hs hd h
  | indexAddr t x y => rw [ho] at h; exact op_indexAddr ho hC hs hd h
  | index t x y => rw [ho] at h; exact op_index ho hC hs hd h
  | extract x i => rw [ho] at h; exact op_extract ho hs hd h
  | makeFunc r fi ca =>
    rw [ho] at h
    cases r with
    | func g => exact op_makeFunc ho hs hd h
    | _ => exact h.elim
  | call c =>
    rw [ho] at h
    cases hc : c.callee with
    | builtin b =>
      cases b with
      | len => exact op_len ho hc hC hs hd h
      | append => exact op_append ho hc hC hs hd h
      | clear => exact op_clear ho hc hC hs hd h
      | _ => simp only [aop, hc] at h
    | invoke r m => simp only [aop, hc] at h
    | value f => exact op_call ho hc hC hs hd h
  | slice t x lo hi mx =>
    rw [ho] at h
    cases mx with
    | none => exact op_slice ho hC hs hd h
    | some _ => exact h.elim
  | _ => rw [ho] at h; exact h.elim

theorem After.up {G' : Gh} (hk : Keep G G') {a' : Act} {w' : World} (h : After G' K a' w') : After G K a' w' := by
  obtain ⟨G2, s2, hk2, k, hs⟩ := h
  exact ⟨G2, s2, hk.trans hk2, k, hs⟩
/-- As the kit's 'wpAnyH', but what is to hold of the world goes by what has come up. -/
def wpAnyG (P : Program) (ops : Array Oper) (Q : Exit → Act → World → Prop) (S : Array Bool → World → Prop) : Nat → Array Bool → Act → World → Prop
  | 0, listed, a, w => Region.ready .any ops listed = [] ∧ Q .normal a w
  | fuel + 1, listed, a, w => (Region.ready .any ops listed = [] → Q .normal a w) ∧
    ∀ i ∈ Region.ready .any ops listed, wpOp P ops Q i (fun a' w' => S (listed.setIfInBounds i true) w' ∧ wpAnyG P ops Q S fuel (listed.setIfInBounds i true) a' w') a w
theorem wpAny_of_G {ops : Array Oper} {Q : Exit → Act → World → Prop} {S : Array Bool → World → Prop} : ∀ (fuel : Nat) (listed : Array Bool) (a : Act) (w : World), wpAnyG P ops Q S fuel listed a w → wpAny P .any ops Q fuel listed a w
  | 0, _, _, _, h => h
  | fuel + 1, _, _, _, h => ⟨h.1, fun i hi => wpOp_mono (fun a' w' h' => wpAny_of_G fuel _ a' w' h'.2) (h.2 i hi)⟩
theorem wpAnyG_first {ops : Array Oper} {Q : Exit → Act → World → Prop} {S : Array Bool → World → Prop} {T : World → Prop} {i : Nat} {oi : Oper} {v : Value} (hi : ops[i]? = some oi) (hsel : ∀ (j : Nat) (o : Oper) cs b, ops[j]? = some o → o.op ≠ .select cs b)
    (hQ : ∀ c a w, Q (.panic c) (a.put oi.dst v) w → Q (.panic c) a w) (hT : ∀ l w', l.getD i true = false → S l w' → T w') (hSi : ∀ l w', i ∈ Region.ready .any ops l → S l w' → S (l.setIfInBounds i true) w')
    (hback : ∀ l j w w', S l w → j ∈ Region.ready .any ops l → j ≠ i → S ((l.setIfInBounds i true).setIfInBounds j true) w' → S (l.setIfInBounds j true) w') :
    ∀ (fuel : Nat) (listed : Array Bool) (a : Act) (w : World),
      (∀ j oj, ops[j]? = some oj → j ≠ i → listed.getD j true = false → (∀ e ∈ oj.after, Region.binds .any e = true → e.on ≠ i) → oi.apart ops oj = true) →
      i ∈ Region.ready .any ops listed → YieldsIf P ops T oi v a → S listed w →
      wpAnyG P ops Q S fuel (listed.setIfInBounds i true) (a.put oi.dst v) w → wpAnyG P ops Q S (fuel + 1) listed a w := by
  intro fuel
  induction fuel with
  | zero =>
    intro listed a w _ hr hy hS H
    refine ⟨fun h => (by rw [h] at hr; cases hr), fun j hj => ?_⟩
    by_cases hji : j = i
    · subst hji; exact hy.wpOp hi (hT listed w (mem_ready.1 hr).1 hS) ⟨hSi _ _ hr hS, H⟩
    · have := ready_mono hj hji
      rw [H.1] at this
      cases this
  | succ fuel ih =>
    intro listed a w hfree hr hy hS H
    refine ⟨fun h => (by rw [h] at hr; cases hr), fun j hj => ?_⟩
    by_cases hji : j = i
    · subst hji; exact hy.wpOp hi (hT listed w (mem_ready.1 hr).1 hS) ⟨hSi _ _ hr hS, H⟩
    · have h1 := H.2 j (ready_mono hj hji)
      obtain ⟨hjun, oj, hoj, hall⟩ := mem_ready.1 hj
      have hnot : ∀ e ∈ oj.after, Region.binds .any e = true → e.on ≠ i := fun e he hb heq => by
        have h1 := hall e he hb
        have h0 := (mem_ready.1 hr).1
        rw [heq] at h1
        rcases Nat.lt_or_ge i listed.size with h' | h'
        · simp [h'] at h0 h1; rw [h0] at h1; cases h1
        · simp [Array.getElem?_eq_none h'] at h1
      have h2 := wpOp_putIf hoj (hfree j oj hoj hji hjun hnot) (fun cs b => hsel i oi cs b hi) (fun cs b => hsel j oj cs b hoj) hQ hy h1
      have hfree' : ∀ k ok, ops[k]? = some ok → k ≠ i → (listed.setIfInBounds j true).getD k true = false →
          (∀ e ∈ ok.after, Region.binds .any e = true → e.on ≠ i) → oi.apart ops ok = true := fun k ok hk hki hun hno => by
        refine hfree k ok hk hki ?_ hno
        by_cases hjk : j = k
        · subst hjk; exact hjun
        · rw [getD_set_ne true hjk] at hun; exact hun
      refine wpOp_mono (fun a' w' h3 => ?_) h2
      have hS' := hback listed j w w' hS hj hji h3.2.1
      refine ⟨hS', ih (listed.setIfInBounds j true) a' w' hfree' (ready_mono hr (Ne.symm hji)) h3.1 hS' ?_⟩
      rw [Array.setIfInBounds_comm _ _ hji]
      exact h3.2.2

/-- What has come up is closed: nothing has come up before what it waits for. -/
def Closed (ops : Array Oper) (l : Array Bool) : Prop := l.size = ops.size ∧ ∀ j o, ops[j]? = some o → l.getD j false = true → ∀ e ∈ o.after, Region.binds .any e = true → l.getD e.on false = true
theorem Closed.set {ops : Array Oper} {l : Array Bool} (h : Closed ops l) {j : Nat} (hj : j ∈ Region.ready .any ops l) : Closed ops (l.setIfInBounds j true) := by
  obtain ⟨_, oj, hoj, hall⟩ := mem_ready.1 hj
  refine ⟨by simpa using h.1, fun k o hk hl e he hb => ?_⟩
  by_cases hkj : j = k
  · subst hkj
    rw [hoj] at hk; cases hk
    exact getD_set_true (hall e he hb)
  · rw [getD_set_ne false hkj] at hl
    exact getD_set_true (h.2 k o hk hl e he hb)
def NoW (C : Ctx) (ops : Array Oper) (l : Array Bool) : Prop := ∀ j, l.getD j false = true → isW C (opOf ops j) = false
def Held (C : Ctx) (ops : Array Oper) (G0 : Gh) (W0 : World) (l : Array Bool) (w' : World) : Prop := Closed ops l ∧ (NoW C ops l → Same G0 W0 w')
theorem opOf_eq {ops : Array Oper} {j : Nat} {o : Oper} (h : ops[j]? = some o) : opOf ops j = o.op := by simp only [opOf, h]
theorem reach_out {ops : Array Oper} {l : Array Bool} (hc : Closed ops l) : ∀ {n j i : Nat}, reach ops n j i = true → l.getD j false = true → l.getD i false = true
  | 0, j, i, h, _ => by cases h
  | n + 1, j, i, h, hj => by
    unfold reach at h
    split at h
    · rename_i o ho
      rw [← Array.any_toList, List.any_eq_true] at h
      obtain ⟨e, he, h⟩ := h
      rw [Bool.and_eq_true, Bool.or_eq_true, beq_iff_eq] at h
      have h1 := hc.2 j o ho hj e (by simpa using he) h.1
      rcases h.2 with h2 | h2
      · rw [← h2]; exact h1
      · exact reach_out hc h2 h1
    · cases h
theorem noW_of {ops : Array Oper} (h : okD C ops = true) {l : Array Bool} (hc : Closed ops l) {i : Nat} (hi : l.getD i true = false) (hl : isLoad (opOf ops i) = true) : NoW C ops l := by
  intro j hj
  cases hw : isW C (opOf ops j) with
  | false => rfl
  | true =>
    have hlt : i < l.size := by
      rcases Nat.lt_or_ge i l.size with h' | h'
      · exact h'
      · simp [Array.getElem?_eq_none h'] at hi
    have hjl : j < ops.size := by
      rw [← hc.1]
      rcases Nat.lt_or_ge j l.size with h' | h'
      · exact h'
      · simp [Array.getElem?_eq_none h'] at hj
    unfold okD at h
    rw [List.all_eq_true] at h
    have h1 := h j (List.mem_range.2 hjl)
    rw [hw] at h1
    simp only [Bool.not_true, Bool.false_or, List.all_eq_true, List.mem_range] at h1
    have h2 := h1 i (by rw [← hc.1]; exact hlt)
    rw [hl] at h2
    simp only [Bool.not_true, Bool.false_or] at h2
    have := reach_out hc h2 hj
    simp [hlt] at this hi
    rw [this] at hi; cases hi
theorem firstQ_out {st : Bool} {ops : Array Oper} {l : Array Bool} {i : Nat} : ∀ {rs : List Nat}, firstQ st ops l rs = some i → i ∈ rs ∧ (isPure (opOf ops i) = true ∨ (st = true ∧ isLoad (opOf ops i) = true)) ∧ Region.free .any ops l i = true
  | [], h => by cases h
  | j :: rs, h => by
    simp only [firstQ] at h
    cases hb : (isPure (opOf ops j) || (st && isLoad (opOf ops j))) && Region.free .any ops l j with
    | true =>
      rw [hb] at h
      cases h
      simp only [Bool.and_eq_true, Bool.or_eq_true] at hb
      exact ⟨by simp, hb.1, hb.2⟩
    | false =>
      rw [hb] at h
      obtain ⟨h1, h2⟩ := firstQ_out h
      exact ⟨List.mem_cons_of_mem _ h1, h2⟩
theorem both_out {F : Nat → Prop} : ∀ {rs : List Nat}, both rs F → ∀ i ∈ rs, F i
  | [], _, i, h => by cases h
  | [j], h, i, hi => by simp at hi; subst hi; exact h
  | j :: k :: rs, h, i, hi => by
    rcases List.mem_cons.1 hi with rfl | hi
    · exact h.1
    · exact both_out h.2 i hi
theorem stepD_out {ops : Array Oper} {i : Nat} {K' : St → Prop} (hs : Sim G s a w) (h : stepD C ops i s K') : ∃ o, ops[i]? = some o ∧ okDst o.dst s.n = true ∧ ∃ s1, Sim G s1 a w ∧ s1.n = s.n ∧
    ((Region.wanted o (yielded ops a.tmps) = true ∧ aop C o.op o.dst s1 K') ∨ (Region.wanted o (yielded ops a.tmps) = false ∧ K' (s1.put o.dst (.tup [])))) := by
  unfold stepD at h
  split at h
  · rename_i o ho
    cases hd : okDst o.dst s.n with
    | false => rw [hd] at h; exact h.elim
    | true =>
      rw [hd] at h
      simp only [cond_true] at h
      refine ⟨o, ho, hd, ?_⟩
      split at h
      · rename_i hg
        exact ⟨s, hs, rfl, .inl ⟨by simp [Region.wanted, hg], h⟩⟩
      · rename_i j want hg
        split at h
        · rename_i t ht
          split at h
          · rename_i b hb
            have ht1 := hs.tm t
            rw [hb] at ht1
            have hv : a.tmps.getD t undef = .bool b := ht1.1.1
            have hget : a.tmps[t]? = some (.bool b) := by
              rw [Array.getD_eq_getD_getElem?] at hv
              cases h2 : a.tmps[t]? with
              | none => rw [h2] at hv; simp [undef] at hv
              | some x => rw [h2] at hv; simp at hv; rw [hv]
            have hy : yielded ops a.tmps j = some b := by
              unfold yielded
              rw [ht]
              simp [hget]
            have hw : Region.wanted o (yielded ops a.tmps) = (b == want) := by
              unfold Region.wanted
              rw [hg]
              simp only [hy]
              cases b <;> cases want <;> rfl
            have learn : ∀ {c : Bool}, c = b → Sim G (s.put (some t) (.bool c)) a w := fun hc => hs.retm (by rw [hv, hc]; exact ⟨rfl, rfl⟩) (lt_c trivial)
            rw [hw]
            cases b with
            | true =>
              have h1 := h.1 rfl
              cases want with
              | true => exact ⟨_, learn rfl, rfl, .inl ⟨rfl, h1⟩⟩
              | false => exact ⟨_, learn rfl, rfl, .inr ⟨rfl, h1⟩⟩
            | false =>
              have h1 := h.2 rfl
              cases want with
              | true => exact ⟨_, learn rfl, rfl, .inr ⟨rfl, h1⟩⟩
              | false => exact ⟨_, learn rfl, rfl, .inl ⟨rfl, h1⟩⟩
          · rename_i hb
            have ht1 := hs.tm t
            rw [hb] at ht1
            have hv : a.tmps.getD t undef = undef := by
              obtain ⟨vs, h1, h2, _⟩ := ht1.1
              rw [h1, List.eq_nil_of_length_eq_zero h2]; rfl
            have hy : yielded ops a.tmps j = none := by
              unfold yielded
              rw [ht]
              rw [Array.getD_eq_getD_getElem?] at hv
              cases h2 : a.tmps[t]? with
              | none => simp [h2]
              | some x => rw [h2] at hv; simp at hv; simp [h2, hv, undef]
            exact ⟨s, hs, rfl, .inr ⟨by unfold Region.wanted; rw [hg]; simp only [hy]; rfl, h⟩⟩
          · exact h.elim
        · exact h.elim
  · exact h.elim
theorem skip_sim {o : Oper} (hs : Sim G s a w) (hd : okDst o.dst s.n = true) : Sim G (s.put o.dst (.tup [])) (a.put o.dst undef) w :=
  hs.put hd (x := .tup []) ⟨[], rfl, rfl, fun j a h => by simp at h⟩ (fun a h => by cases h)
theorem Quiet.weak {o : Oper} {T T' : World → Prop} (h : Quiet P G w s a o K T) (hT : ∀ w, T' w → T w) : Quiet P G w s a o K T' := by
  obtain ⟨x, y, h1, h2, h3, h4⟩ := h
  exact ⟨x, y, h1, h2, h3, fun w' hw' => h4 w' (hT w' hw')⟩
theorem pure_out {o : Oper} (hC : CtxOk P C) (hs : Sim G s a w) (hq : isPure o.op = true) (hd : okDst o.dst s.n = true) (h : aop C o.op o.dst s K) : Quiet P G w s a o K (fun _ => True) := by
  cases ho : o.op with
  | move x => rw [ho] at h; exact q_move (.inl ho) hs h
  | assign x => rw [ho] at h; exact q_move (.inr ho) hs h
  | pick c x y => rw [ho] at h; exact q_pick ho hs h
  | call c =>
    rw [ho] at hq
    cases hc : c.callee with
    | builtin b =>
      cases b with
      | len => rw [ho] at h; exact q_len ho hc hC hs h
      | _ => simp [isPure, hc] at hq
    | _ => simp [isPure, hc] at hq
  | fieldAddr t x f => rw [ho] at h; exact q_fieldAddr ho hC hs hd h
  | indexAddr t x y => rw [ho] at h; exact q_indexAddr ho hC hs hd h
  | unOp op t x => rw [ho] at h; exact q_un ho hs hd h
  | binOp op t x y t' => rw [ho] at h; exact q_bin ho hC hs hd h
  | _ => rw [ho] at hq; simp [isPure] at hq
theorem load_out {o : Oper} (hC : CtxOk P C) (hs : Sim G s a w) (hq : isLoad o.op = true) (hd : okDst o.dst s.n = true) (h : aop C o.op o.dst s K) : Quiet P G w s a o K (Same G w) := by
  cases ho : o.op with
  | load t p => rw [ho] at h; exact q_load ho hC hs hd h
  | _ => rw [ho] at hq; simp [isLoad] at hq
theorem calm_out {o : Oper} {Q : Exit → Act → World → Prop} (hC : CtxOk P C) (hs : Sim G s a w) (hc : calm C o.op = true) (hd : okDst o.dst s.n = true) (h : aop C o.op o.dst s K) : o.wp P a w (Calm G K w) Q := by
  cases ho : o.op with
  | alloc t => rw [ho] at h; exact op_allocC ho hC hs hd h
  | call c =>
    rw [ho] at h hc
    simp only [calm] at hc
    split at hc
    · rename_i g hcal
      have hm : ((mem C.rw g = false ∧ mem C.mv g = false) ∧ mem C.px g = false) ∧ mem C.nw g = false := by simpa using hc
      simp only [aop, hcal] at h
      split at h
      · rename_i g' fi ca aas hg has
        cases hg
        simp only [List.isEmpty_toArray, Array.isEmpty_empty, Bool.and_self, cond_true, hm.1.1.1, hm.1.1.2, hm.1.2, hm.2, cond_false] at h
        exact op_call_roC ho hcal hC hs hd rfl has h
      · rename_i hg _
        cases hg
      · exact h.elim
    · cases hc
  | _ => rw [ho] at hc; cases hc
theorem adraw_sound {ops : Array Oper} {Q : Exit → Act → World → Prop} (hC : CtxOk P C) (hsel : Region.noSelect ops = true) (hQp : ∀ c a w, ¬ Q (.panic c) a w) {G0 : Gh} {W0 : World} : ∀ {fuel : Nat} {st : Bool} {listed : Array Bool} {G : Gh} {s : St} {a : Act} {w : World}, Sim G s a w → adraw C ops fuel st listed s K →
    Held C ops G0 W0 listed w → (st = true → (G = G0 ∧ w = W0) ∧ okD C ops = true) → (NoW C ops listed → ∀ b, ((∃ d, G0.S d b) ∨ G0.Z b) → b < w.heap.size) → (∀ a' w', After G K a' w' → Q .normal a' w') → wpAnyG P ops Q (Held C ops G0 W0) fuel listed a w
  | 0, st, listed, G, s, a, w, hs, h, hheld, hst, hlt, hQ => by
    simp only [adraw] at h
    split at h
    · rename_i hr; exact ⟨hr, hQ a w ⟨G, s, Keep.refl G, h, hs⟩⟩
    · exact h.elim
  | fuel + 1, st, listed, G, s, a, w, hs, h, hheld, hst, hlt, hQ => by
    simp only [adraw] at h
    split at h
    · rename_i hr
      exact ⟨fun _ => hQ a w ⟨G, s, Keep.refl G, h, hs⟩, fun i hi => by rw [hr] at hi; cases hi⟩
    · rename_i rs hne
      split at h
      · rename_i i hf
        obtain ⟨hir, hq, hfree⟩ := firstQ_out hf
        obtain ⟨o, hoi, hd0, s1, hs1, hn1, h⟩ := stepD_out hs h
        have hd : okDst o.dst s1.n = true := by rw [hn1]; exact hd0
        rw [opOf_eq hoi] at hq
        have hnW : isW C o.op = false := by rcases hq with h | h <;> simp [isW, h]
        have hget : ∀ (l : Array Bool) (k m : Nat), (l.setIfInBounds k true).getD m false = true → m ≠ k → l.getD m false = true := fun l k m h hmk => by rwa [getD_set_ne false (fun e => hmk e.symm)] at h
        have hback : ∀ (l : Array Bool) (j : Nat) (w w' : World), Held C ops G0 W0 l w → j ∈ Region.ready .any ops l → j ≠ i → Held C ops G0 W0 ((l.setIfInBounds i true).setIfInBounds j true) w' → Held C ops G0 W0 (l.setIfInBounds j true) w' := by
          intro l j w w' hl' hj hji h
          refine ⟨hl'.1.set hj, fun hn => h.2 fun m hm => ?_⟩
          by_cases hmi : m = i
          · subst hmi; rw [opOf_eq hoi]; exact hnW
          · refine hn m ?_
            by_cases hmj : m = j
            · subst hmj
              have := (mem_ready.1 hj).1
              have hlt : m < l.size := by
                rcases Nat.lt_or_ge m l.size with h' | h'
                · exact h'
                · simp [Array.getElem?_eq_none h'] at this
              simp [hlt]
            · have h1 := hget _ _ _ (hget _ _ _ hm hmj) hmi
              exact getD_set_true h1
        have hSi : ∀ (l : Array Bool) (w' : World), i ∈ Region.ready .any ops l → Held C ops G0 W0 l w' → Held C ops G0 W0 (l.setIfInBounds i true) w' := fun l w' hi' h => ⟨h.1.set hi', fun hn => h.2 fun m hm => hn m (getD_set_true hm)⟩
        have hlt' : NoW C ops (listed.setIfInBounds i true) → ∀ b, ((∃ d, G0.S d b) ∨ G0.Z b) → b < w.heap.size := fun hn => hlt (fun m hm => hn m (getD_set_true hm))
        rcases h with ⟨hwant, h⟩ | ⟨hwant, h⟩
        rotate_left
        · have rest := adraw_sound hC hsel hQp (skip_sim hs1 hd) h (hSi listed w hir hheld) hst hlt' hQ
          refine wpAnyG_first (T := fun _ => True) hoi (Region.noSelect_spec hsel) (fun c a w h => absurd h (hQp c _ w)) (fun _ _ _ _ => trivial) hSi hback fuel listed a w (Region.free_spec hoi hfree) hir (.inr ⟨hwant, rfl⟩) hheld rest
        by_cases hp : isPure o.op = true
        · obtain ⟨x, y, hk, hv, hl, hrun⟩ := pure_out hC hs1 hp hd h
          have rest := adraw_sound hC hsel hQp (hs1.put hd hv hl) hk (hSi listed w hir hheld) hst hlt' hQ
          exact wpAnyG_first (T := fun _ => True) hoi (Region.noSelect_spec hsel) (fun c a w h => absurd h (hQp c _ w)) (fun _ _ _ _ => trivial) hSi hback fuel listed a w (Region.free_spec hoi hfree) hir (.inl ⟨hwant, fun w' _ => hrun w' trivial⟩) hheld rest
        · obtain ⟨hst', hload⟩ := hq.resolve_left hp
          obtain ⟨x, y, hk, hv, hl, hrun⟩ := load_out hC hs1 hload hd h
          have rest := adraw_sound hC hsel hQp (hs1.put hd hv hl) hk (hSi listed w hir hheld) hst hlt' hQ
          obtain ⟨⟨hG, hW⟩, hok⟩ := hst hst'
          subst hG; subst hW
          exact wpAnyG_first (T := Same G w) hoi (Region.noSelect_spec hsel) (fun c a w h => absurd h (hQp c _ w)) (fun l w' hl' h => h.2 (noW_of hok h.1 hl' (by rw [opOf_eq hoi]; exact hload))) hSi hback fuel listed a w (Region.free_spec hoi hfree) hir (.inl ⟨hwant, fun w' hw' => hrun w' hw'⟩) hheld rest
      · refine ⟨fun h0 => absurd h0 hne, fun i hi => ?_⟩
        obtain ⟨o, hoi, hd0, s1, hs1, hn1, h⟩ := stepD_out hs (both_out h i hi)
        have hd : okDst o.dst s1.n = true := by rw [hn1]; exact hd0
        unfold wpOp
        simp only [hoi]
        have step : ∀ {G' : Gh} {s' : St} {a' : Act} {w' : World}, Keep G G' → adraw C ops fuel false (listed.setIfInBounds i true) s' K → Sim G' s' a' w' → (NoW C ops (listed.setIfInBounds i true) → w.heap.size ≤ w'.heap.size) → Held C ops G0 W0 (listed.setIfInBounds i true) w' → wpAnyG P ops Q (Held C ops G0 W0) fuel (listed.setIfInBounds i true) a' w' := by
          intro G' s' a' w' hk hk' hs' hgr hheld'
          exact adraw_sound hC hsel hQp hs' hk' hheld' (fun h => by cases h) (fun hn b hb => Nat.lt_of_lt_of_le (hlt (fun m hm => hn m (getD_set_true hm)) b hb) (hgr hn)) (fun a2 w2 h2 => hQ a2 w2 (After.up hk h2))
        have still : Held C ops G0 W0 (listed.setIfInBounds i true) w := ⟨hheld.1.set hi, fun hn => hheld.2 (fun m hm => hn m (getD_set_true hm))⟩
        rcases h with ⟨hwant, h⟩ | ⟨hwant, h⟩
        rotate_left
        · rw [if_neg (by simp [hwant])]
          exact ⟨still, step (Keep.refl G) h (skip_sim hs1 hd) (fun _ => Nat.le_refl _) still⟩
        rw [if_pos hwant]
        refine .inl ?_
        have quiet : ∀ {T : World → Prop}, T w → Quiet P G w s1 a o (fun s' => adraw C ops fuel false (listed.setIfInBounds i true) s' K) T → o.wp P a w (fun a' w' => Held C ops G0 W0 (listed.setIfInBounds i true) w' ∧ wpAnyG P ops Q (Held C ops G0 W0) fuel (listed.setIfInBounds i true) a' w') Q := by
          intro T hT hq
          obtain ⟨x, y, hk, hv, hl, hrun⟩ := hq
          exact wp_val (hrun w hT) ⟨still, step (Keep.refl G) hk (hs1.put hd hv hl) (fun _ => Nat.le_refl _) still⟩
        cases hp : isPure o.op with
        | true => exact quiet trivial (pure_out hC hs1 hp hd h)
        | false =>
        cases hld : isLoad o.op with
        | true => exact quiet (fun _ _ => rfl) (load_out hC hs1 hld hd h)
        | false =>
        cases hcalm : calm C o.op with
        | true =>
          refine Oper.wp_mono (fun a' w' h' => ?_) (calm_out hC hs1 hcalm hd h)
          have hH : Held C ops G0 W0 (listed.setIfInBounds i true) w' := ⟨hheld.1.set hi, fun hn b hb => by
            have hn' : NoW C ops listed := fun m hm => hn m (getD_set_true hm)
            rw [h'.2.2 b (hlt hn' b hb)]
            exact hheld.2 hn' b hb⟩
          obtain ⟨⟨G', s', hk, hk', hs'⟩, hgr, _⟩ := h'
          exact ⟨hH, step hk hk' hs' (fun _ => hgr.size) hH⟩
        | false =>
          have hW : isW C (opOf ops i) = true := by rw [opOf_eq hoi]; simp [isW, hp, hld, hcalm]
          have hno : ¬ NoW C ops (listed.setIfInBounds i true) := fun hn => by
            have := hn i (by
              have h1 := (mem_ready.1 hi).1
              have hlt : i < listed.size := by
                rcases Nat.lt_or_ge i listed.size with h' | h'
                · exact h'
                · simp [Array.getElem?_eq_none h'] at h1
              simp [hlt])
            rw [hW] at this; cases this
          refine Oper.wp_mono (fun a' w' h' => ?_) (aop_sound hC hs1 hd h)
          have hH : Held C ops G0 W0 (listed.setIfInBounds i true) w' := ⟨hheld.1.set hi, fun hn => absurd hn hno⟩
          obtain ⟨G', s', hk, hk', hs'⟩ := h'
          exact ⟨hH, step hk hk' hs' (fun hn => absurd hn hno) hH⟩
theorem draw_sound {Q : Exit → Act → World → Prop} (hm : P.follows .mixedOrders = true) (hC : CtxOk P C) {id : Nat} {ops : Array Oper} {st : Bool} (hsel : Region.noSelect ops = true) (hok : st = true → okD C ops = true) (hs : Sim G s a w) (h : adraw C ops ops.size st (Array.replicate ops.size false) s K) (hQ : ∀ a' w', After G K a' w' → Q .normal a' w') : (Code.region id ops true).wp P Q a w := by
  let Q' : Exit → Act → World → Prop := fun e a w => match e with
    | .normal => Q .normal a w
    | _ => False
  refine wp_mono (Q := Q') (wp_region_any hm (wpAny_of_G (S := Held C ops G { w with drawn := w.drawn + 1 }) _ _ _ _ ?_)) (fun e a w h => by cases e <;> first | exact h | exact h.elim)
  have hs' : Sim G s a { w with drawn := w.drawn + 1 } := hs.world (up_draw _) (fun _ _ => rfl)
  refine adraw_sound hC hsel (fun c a w h => h) hs' h ⟨⟨by simp, fun j o _ hj => ?_⟩, fun _ _ _ => rfl⟩ (fun e => ⟨⟨rfl, rfl⟩, hok e⟩) (fun _ b hb => ?_) hQ
  · simp [Array.getElem?_replicate] at hj
    split at hj <;> simp at hj
  · rcases hb with ⟨d, hd⟩ | hz
    · exact (hs.own d b hd).1
    · have := hz.1; have := hs.grown; show b < w.heap.size; omega
end
end Go.Proofs.Ytadpancnhinlbaa.E
