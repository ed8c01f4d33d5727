/- Calls that read and write what an argument refers to. -/
import Derived.Test.YtbofjpmighijhaaEOps8
namespace Go.Proofs.Ytbofjpmighijhaa.E
set_option linter.unusedVariables false
section
variable {P : Program} {C : Ctx} {G : Gh} {w : World} {s : St} {a : Act} {o : Oper} {K : St → Prop} {Q : Exit → Act → World → Prop}

def Sof (G : Gh) : A1 → Nat → Prop
  | .own d _ => G.S d
  | _ => fun _ => False
theorem rw1_out {c : A1} {y : Value} {K' : T → Prop} (hs : Sim G s a w) (hv : V1 G w s.ob c y) (h : rw1 s c K') :
    ∃ t, K' t ∧ Ow w t y (Sof G c) ∧ (∀ d q, c = .own d q → ∃ sv e es, look s.ob d = some (.row q sv e es) ∧ t = .sl e es ∧ y = G.y d) := by
  unfold rw1 at h
  split at h
  · obtain ⟨e, h⟩ := h
    rw [hv.1]
    exact ⟨_, h, .nil, fun d q h => by cases h⟩
  · rw [hv.1]
    exact ⟨_, h, .v (hv.1 ▸ hv.2), fun d q h => by cases h⟩
  · rename_i d q
    split at h
    · rename_i q' sv e es hr
      obtain ⟨rfl, h⟩ := h
      have hy := hv.2 ⟨sv, e, es, hr⟩
      refine ⟨_, h, by rw [hy]; exact (hs.ob d _ hr).2, fun d' q1 he => ?_⟩
      cases he
      exact ⟨sv, e, es, hr, rfl, hy⟩
    · exact h.elim
  · exact h.elim
theorem rwL_out : ∀ {l : List A1} {ys : Nat → Value} {K' : List T → Prop}, Sim G s a w → (∀ j c, l[j]? = some c → V1 G w s.ob c (ys j)) → rwL s l K' →
    ∃ ts, K' ts ∧ ts.length = l.length ∧ ∀ j t c, ts[j]? = some t → l[j]? = some c → Ow w t (ys j) (Sof G c) ∧ (∀ d q, c = .own d q → ∃ sv e es, look s.ob d = some (.row q sv e es) ∧ t = .sl e es ∧ ys j = G.y d)
  | [], ys, K', hs, hv, h => ⟨[], h, rfl, fun j t c h => by simp at h⟩
  | c :: l, ys, K', hs, hv, h => by
    obtain ⟨t, h, hr⟩ := rw1_out hs (hv 0 c rfl) h
    obtain ⟨ts, h, hn, hr2⟩ := rwL_out (ys := fun j => ys (j + 1)) hs (fun j c hc => hv (j + 1) c (by simpa using hc)) h
    refine ⟨t :: ts, h, by simp [hn], fun j t' c' ht hc => ?_⟩
    cases j with
    | zero => simp at ht hc; subst ht; subst hc; exact hr
    | succ j => exact hr2 j t' c' (by simpa using ht) (by simpa using hc)
theorem mem_names {l : List A1} {d q : Nat} (h : A1.own d q ∈ l) : d ∈ names l := by
  induction l with
  | nil => cases h
  | cons x l ih =>
    rcases List.mem_cons.1 h with h1 | h1
    · subst h1; simp [names]
    · have h2 := ih h1
      cases x <;> simp only [names] <;> first | exact h2 | exact List.mem_cons_of_mem _ h2
theorem mem_of {l : List Nat} {x : Nat} (h : mem l x = false) : x ∉ l := by
  induction l with
  | nil => simp
  | cons y l ih =>
    simp only [mem] at h
    cases hb : Nat.beq y x with
    | true => rw [hb] at h; cases h
    | false =>
      rw [hb] at h
      intro hx
      rcases List.mem_cons.1 hx with hx | hx
      · subst hx; rw [Nat.beq_refl] at hb; cases hb
      · exact ih h hx
theorem nodup_cons {x : Nat} {l : List Nat} (h : nodup (x :: l) = true) : x ∉ l ∧ nodup l = true := by
  simp only [nodup] at h
  cases hb : mem l x with
  | true => rw [hb] at h; cases h
  | false => rw [hb] at h; exact ⟨mem_of hb, h⟩
theorem names_inj : ∀ {l : List A1} {i j d q q' : Nat}, nodup (names l) = true → l[i]? = some (.own d q) → l[j]? = some (.own d q') → i = j
  | [], i, j, d, q, q', _, h, _ => by simp at h
  | x :: l, i, j, d, q, q', hn, hi, hj => by
    have rest : nodup (names l) = true ∧ ∀ d q, x = .own d q → d ∉ names l := by
      cases x <;> simp only [names] at hn <;> first | exact ⟨hn, fun d q h => by cases h⟩ | (obtain ⟨h1, h2⟩ := nodup_cons hn; exact ⟨h2, fun d q h => by cases h; exact h1⟩)
    cases i with
    | zero => cases j with
      | zero => rfl
      | succ j =>
        simp at hi hj
        exact absurd (mem_names (List.mem_of_getElem? hj)) (rest.2 d q hi)
    | succ i => cases j with
      | zero =>
        simp at hi hj
        exact absurd (mem_names (List.mem_of_getElem? hi)) (rest.2 d q' hj)
      | succ j => exact congrArg (· + 1) (names_inj rest.1 (by simpa using hi) (by simpa using hj))
theorem sof_apart (hs : Sim G s a w) {l : List A1} (hn : nodup (names l) = true) {i j : Nat} {c c' : A1} (hi : l[i]? = some c) (hj : l[j]? = some c') {b : Nat} (h : Sof G c b) (h' : Sof G c' b) : i = j := by
  cases c <;> first | exact h.elim | skip
  cases c' <;> first | exact h'.elim | skip
  rename_i d q d' q'
  have : d = d' := hs.apart d d' b h h'
  subst this
  exact names_inj hn hi hj
/-- The rows behind what was written. -/
theorem wr1_out {c : A1} {t' : T} {s : St} {K' : St → Prop} (v : Nat) (h : wr1 s c t' K') : ∃ s', K' s' ∧ s'.tm = s.tm ∧ s'.n = s.n ∧ (∀ d, (∀ q, c ≠ .own d q) → look s'.ob d = look s.ob d) ∧
    ∀ d q, c = .own d q → ∃ q' sv e es es', look s.ob d = some (.row q' sv e es) ∧ t' = .sl e es' ∧ look s'.ob d = some (.row q v e es') := by
  unfold wr1 at h
  split at h
  · exact ⟨s, h, rfl, rfl, fun _ _ => rfl, fun d q h => by cases h⟩
  · exact ⟨s, h.2, rfl, rfl, fun _ _ => rfl, fun d q h => by cases h⟩
  · rename_i d q e' es'
    split at h
    · rename_i q' sv e es hr
      cases hb : Nat.beq e' e with
      | false => rw [hb] at h; exact h.elim
      | true =>
        rw [hb] at h
        have : e' = e := Nat.eq_of_beq_eq_true hb
        subst this
        refine ⟨_, h v, rfl, rfl, fun d' hd' => ?_, fun d' q1 he => ?_⟩
        · rw [set_ob, if_neg (fun e => hd' q (by rw [e]))]
        · cases he
          exact ⟨q', sv, e', es, es', hr, rfl, by rw [set_ob, if_pos rfl]⟩
    · exact h.elim
  · exact h.elim
theorem wrL_out (v : Nat) : ∀ {l : List A1} {ts : List T} {s : St} {K' : St → Prop}, nodup (names l) = true → wrL l ts s K' → ts.length = l.length ∧ ∃ s', K' s' ∧ s'.tm = s.tm ∧ s'.n = s.n ∧ (∀ d, d ∉ names l → look s'.ob d = look s.ob d) ∧
    ∀ (j d q : Nat), l[j]? = some (.own d q) → ∃ (q' sv e : Nat) (es es' : List T), look s.ob d = some (.row q' sv e es) ∧ ts[j]? = some (.sl e es') ∧ look s'.ob d = some (.row q v e es')
  | [], [], s, K', _, h => ⟨rfl, s, h, rfl, rfl, fun _ _ => rfl, fun j d q h => by simp at h⟩
  | c :: l, t :: ts, s, K', hn, h => by
    simp only [wrL] at h
    obtain ⟨s1, h, htm, hsn, hother, hown⟩ := wr1_out v h
    have rest : nodup (names l) = true ∧ ∀ d q, c = .own d q → d ∉ names l := by
      cases c <;> simp only [names] at hn <;> first | exact ⟨hn, fun d q h => by cases h⟩ | (obtain ⟨h1, h2⟩ := nodup_cons hn; exact ⟨h2, fun d q h => by cases h; exact h1⟩)
    obtain ⟨hlen, s2, h, htm2, hsn2, hother2, hown2⟩ := wrL_out v rest.1 h
    refine ⟨by simp [hlen], s2, h, htm2.trans htm, hsn2.trans hsn, fun d hd => ?_, fun j d q hj => ?_⟩
    · have h1 : d ∉ names l := fun hin => hd (by cases c <;> simp only [names] <;> first | exact hin | exact List.mem_cons_of_mem _ hin)
      rw [hother2 d h1]
      exact hother d (fun q he => hd (by rw [he]; simp [names]))
    · cases j with
      | zero =>
        simp at hj
        obtain ⟨q', sv, e, es, es', h1, h2, h3⟩ := hown d q hj
        exact ⟨q', sv, e, es, es', h1, by simp [h2], by rw [hother2 d (rest.2 d q hj)]; exact h3⟩
      | succ j =>
        simp at hj
        obtain ⟨q', sv, e, es, es', h1, h2, h3⟩ := hown2 j d q hj
        refine ⟨q', sv, e, es, es', ?_, by simpa using h2, h3⟩
        rw [← hother d (fun q1 he => absurd (mem_names (List.mem_of_getElem? hj)) (rest.2 d q1 he))]; exact h1
  | [], _ :: _, s, K', _, h => h.elim
  | _ :: _, [], s, K', _, h => h.elim
theorem scal_out : ∀ {l : List A2} {ts : List T}, scal l = some ts → ts.length = l.length ∧ ∀ (j : Nat) (t : T), ts[j]? = some t → ∃ x, t = .v x ∧ l[j]? = some (A2.c (.v x))
  | [], ts, h => by simp [scal] at h; subst h; exact ⟨rfl, fun j t h => by simp at h⟩
  | x :: l, ts, h => by
    unfold scal at h
    split at h
    · rename_i heq; cases heq
    · cases h
    · rename_i y l' _ heq
      cases heq
      split at h
      · rename_i ts' hts
        cases h
        obtain ⟨hn, hv⟩ := scal_out hts
        refine ⟨by simp [hn], fun j t ht => ?_⟩
        cases j with
        | zero => simp at ht; subst ht; exact ⟨y, rfl, rfl⟩
        | succ j => simpa using hv j t (by simpa using ht)
      · cases h
    · cases h
theorem op_call_rw {c : Call} {f : Operand} {g : Nat} {b : A2} {l : List A2} {ts rs : List T} (ho : o.op = .call c) (hc : c.callee = .value f) (hC : CtxOk P C) (hs : Sim G s a w) (hd : okDst o.dst s.n = true) (hf : a.eval f = .func (.func g) #[] #[]) (has : evs s c.args.toList = some (b :: l)) (hsc : scal l = some ts)
    (h : rwA s b (fun t t' => C.Sp g (.rw t t' :: ts.map .ro) rs) fun s => ∀ q, K ((thR (nm o.dst) q s rs).2.put o.dst (thR (nm o.dst) q s rs).1)) : o.wp P a w (After G K) Q := by
  obtain ⟨hn, hv⟩ := evs_out hs has
  obtain ⟨hsn, hsv⟩ := scal_out hsc
  have hv0 := hv 0 b rfl
  generalize hvals : c.args.toList.map a.eval = vals at hv hv0
  have hvl : vals.length = (b :: l).length := by rw [← hvals]; simpa using hn.symm
  -- the call with the blocks R of the first argument
  have go : ∀ {t t' : T} {R : Nat → Prop}, C.Sp g (.rw t t' :: ts.map .ro) rs → Ow2 w t (vals.getD 0 undef) R → (∀ b, R b → b < w.heap.size) →
      (∀ x w' (S S0 : Nat → Prop), Outs w' rs x S → Ow2 w' t' (vals.getD 0 undef) S0 → (∀ b, S b → w.heap.size ≤ b ∧ b < w'.heap.size) → (∀ b, S0 b → b < w'.heap.size ∧ (w.heap.size ≤ b ∨ R b)) → (∀ b, S b → ¬ S0 b) → Up w w' → (∀ b, b < w.heap.size → ¬ R b → w'.heap[b]? = w.heap[b]?) → After G K (a.put o.dst x) w') → o.wp P a w (After G K) Q := by
    intro t t' R hsp hown hR hfin
    refine wp_call (R := R) ho hc hf (hC.sp _ _ _ hsp) hR ?_ (fun x w' hret => ?_)
    · rw [hvals]
      refine ⟨by simp [hvl, hsn], fun i => match i with | 0 => R | _ => fun _ => False, fun i b hb => ?_, fun i j b hi hj => ?_, fun i x hx => ?_⟩
      · cases i with
        | zero => exact hb
        | succ i => exact hb.elim
      · cases i <;> cases j <;> first | rfl | exact hi.elim | exact hj.elim
      · cases i with
        | zero => simp at hx; subst hx; exact hown
        | succ i =>
          simp only [List.getElem?_cons_succ, List.getElem?_map, Option.map_eq_some_iff] at hx
          obtain ⟨t1, ht1, rfl⟩ := hx
          obtain ⟨y, rfl, hy⟩ := hsv i t1 ht1
          have := (hv (i + 1) _ (by simpa using hy)).1
          show Rd2 w _ (.v y) _
          rw [this.1]; exact .v (this.1 ▸ this.2)
    · obtain ⟨x', S, Ss, he, hout, hargs, hS, hSs, hdis, _, hgr, hold⟩ := hret
      cases he
      rw [hvals] at hargs
      exact hfin x w' S (Ss 0) hout (hargs 0 _ rfl) hS (hSs 0) (hdis 0) hgr hold
  -- behind it
  have fin : ∀ {G1 : Gh} {s1 : St} {w' : World} {x : Value} {S : Nat → Prop}, Sim G1 s1 a w' → Keep G G1 → s1.n = s.n → Outs w' rs x S → (∀ b, S b → b < w'.heap.size ∧ (G1.w0.heap.size ≤ b ∨ G1.R b) ∧ ∀ d, ¬ G1.S d b) → (∀ q, K ((thR (nm o.dst) q s1 rs).2.put o.dst (thR (nm o.dst) q s1 rs).1)) → After G K (a.put o.dst x) w' := by
    intro G1 s1 w' x S hs1 hk hsn1 hout hS hK
    obtain ⟨G', hk', hs2, hv2, hl2, hn2⟩ := thR_out (B := 1000) (q := G1.k) (d := nm o.dst) hs1 (Nat.le_refl _) (nm_ge _) hout hS
    exact after_of (hs2.put (by rw [hn2, hsn1]; exact hd) hv2 hl2) (hk.trans hk') (hK G1.k)
  unfold rwA at h
  split at h
  · rename_i l0
    cases hnd : nodup (names l0) with
    | false => rw [hnd] at h; exact h.elim
    | true =>
      rw [hnd] at h
      simp only [cond_true] at h
      obtain ⟨vs, hval, hvn, hvv⟩ := hv0.1
      obtain ⟨ts0, ⟨ts', hsp, h⟩, htn, hts⟩ := rwL_out (ys := fun j => vs.getD j undef) hs (fun j c hc => (hvv j c hc).1) h
      obtain ⟨htn', s1, hK, htm1, hn1, hother, hrows⟩ := wrL_out G.k hnd h
      let R : Nat → Prop := fun b => ∃ (j : Nat) (c : A1), l0[j]? = some c ∧ Sof G c b
      let Sx : Nat → Nat → Prop := fun j b => ∃ (c : A1), l0[j]? = some c ∧ Sof G c b
      have hRlt : ∀ b, R b → b < w.heap.size ∧ (G.w0.heap.size ≤ b ∨ G.R b) := fun b ⟨j, c, hc, hb⟩ => by cases c <;> first | exact hb.elim | exact hs.own _ b hb
      refine go (R := R) hsp ⟨vs, Sx, hval, ⟨by omega, fun j t ht => ?_⟩, fun j b ⟨c, hc, hb⟩ => ⟨j, c, hc, hb⟩, fun i j b ⟨c, hc, hb⟩ ⟨c', hc', hb'⟩ => sof_apart hs hnd hc hc' hb hb'⟩ (fun b hb => (hRlt b hb).1) (fun x w' S S0 hout how hS hS0 hdis hgr hold => ?_)
      · have hj : j < l0.length := by rw [← htn]; exact (List.getElem?_eq_some_iff.1 ht).1
        exact (hts j t _ ht (List.getElem?_eq_getElem hj)).1.sup (fun b hb => ⟨_, List.getElem?_eq_getElem hj, hb⟩)
      · obtain ⟨vs', Ss', hval', ⟨hvn', hcells⟩, hsub, hap⟩ := how
        rw [hval] at hval'
        have hvs : vs' = vs := by injection hval' with h; exact (List.toArray_inj h).symm
        subst hvs
        have hmem : ∀ d, d ∈ names l0 → ∃ (j q : Nat), l0[j]? = some (A1.own d q) := by
          intro d hd
          have : ∀ l : List A1, d ∈ names l → ∃ (j q : Nat), l[j]? = some (A1.own d q) := by
            intro l
            induction l with
            | nil => intro h; cases h
            | cons x l ih =>
              intro h
              have tail : d ∈ names l → ∃ (j q : Nat), (x :: l)[j]? = some (A1.own d q) := fun h => by obtain ⟨j, q, hj⟩ := ih h; exact ⟨j + 1, q, by simpa using hj⟩
              cases x <;> simp only [names] at h <;> first | exact tail h | (exact (List.mem_cons.1 h).elim (fun h => ⟨0, _, by rw [h]; rfl⟩) tail)
          exact this l0 hd
        let D : Nat → Prop := fun d => d ∈ names l0
        let Sn : Nat → Nat → Prop := fun d b => ∃ (j q : Nat), l0[j]? = some (.own d q) ∧ Ss' j b
        have hs1 : Sim { G with k := G.k + 1, S := fun d => if D d then Sn d else G.S d } s1 a w' := by
          refine hs.wroteD D hn1 htm1 hgr (fun b hb hR => hold b (by have := hs.grown; omega) (fun hr => ?_)) (fun d b hd hb => hold b (hs.own d b hb).1 (fun hr => ?_)) (fun d hd => hother d hd) (fun d hd => ?_) (fun d b hd hb => ?_)
          · rcases (hRlt b hr).2 with h | h
            · omega
            · exact hR h
          · obtain ⟨j, c, hc, hb'⟩ := hr
            cases c <;> first | exact hb'.elim | skip
            rename_i d' q'
            have : d = d' := hs.apart d d' b hb hb'
            subst this
            exact hd (mem_names (List.mem_of_getElem? hc))
          · obtain ⟨j, q, hj⟩ := hmem d hd
            obtain ⟨q', sv, e, es, es', h1, h2, h3⟩ := hrows j d q hj
            have hjt : j < ts0.length := by rw [htn]; exact (List.getElem?_eq_some_iff.1 hj).1
            obtain ⟨_, hown⟩ := hts j _ _ (List.getElem?_eq_getElem hjt) hj
            obtain ⟨sv', e', es0, h4, _, h6⟩ := hown d q rfl
            rw [h4] at h1
            cases h1
            refine ⟨q, sv, e, es, es', h4, h3, ?_⟩
            rw [← h6]
            exact (hcells j _ h2).sup (fun b hb => ⟨j, q, hj, hb⟩)
          · obtain ⟨j, q, hj, hb'⟩ := hb
            obtain ⟨h1, h2⟩ := hS0 b (hsub j b hb')
            refine ⟨h1, ?_, fun d' hd' hb2 => ?_, fun d' hd' hb2 => ?_⟩
            · rcases h2 with h2 | h2
              · left; have := hs.grown; omega
              · exact (hRlt b h2).2
            · rcases h2 with h2 | ⟨j', c, hc, hb3⟩
              · have := (hs.own d' b hb2).1; omega
              · cases c <;> first | exact hb3.elim | skip
                rename_i d2 q2
                have : d' = d2 := hs.apart d' d2 b hb2 hb3
                subst this
                exact hd' (mem_names (List.mem_of_getElem? hc))
            · obtain ⟨j2, q2, hj2, hb3⟩ := hb2
              have : j = j2 := hap j j2 b hb' hb3
              subst this
              rw [hj] at hj2; cases hj2; rfl
        refine fin hs1 ⟨rfl, rfl, fun _ _ => rfl⟩ hn1 hout (fun b hb => ?_) hK
        obtain ⟨h1, h2⟩ := hS b hb
        refine ⟨h2, .inl (by show G.w0.heap.size ≤ b; have := hs.grown; omega), fun d hd => ?_⟩
        have hd' : (fun d => if D d then Sn d else G.S d) d b := hd
        by_cases hD : D d
        · simp only [hD, if_true] at hd'
          obtain ⟨j, q, hj, hb'⟩ := hd'
          exact hdis b hb (hsub j b hb')
        · simp only [hD, if_false] at hd'
          have := (hs.own d b hd').1; omega
  · exact h.elim
theorem op_call {c : Call} {f : Operand} (ho : o.op = .call c) (hc : c.callee = .value f) (hC : CtxOk P C) (hs : Sim G s a w) (hd : okDst o.dst s.n = true) (h : aop C (.call c) o.dst s K) : o.wp P a w (After G K) Q := by
  simp only [aop, hc] at h
  split at h
  · rename_i g fi ca as hg has
    cases he : (fi.isEmpty && ca.isEmpty) with
    | false => rw [he] at h; exact h.elim
    | true =>
      rw [he] at h
      simp only [cond_true] at h
      rw [Bool.and_eq_true] at he
      have h1 : fi = #[] := by simpa using he.1
      have h2 : ca = #[] := by simpa using he.2
      subst h1; subst h2
      have hf := hs.eval f
      rw [hg] at hf
      have hfv : a.eval f = .func (.func g) #[] #[] := hf.1.1
      cases hm : mem C.rw g with
      | false =>
        rw [hm] at h
        exact op_call_ro ho hc hC hs hd hfv has h
      | true =>
        rw [hm] at h
        simp only [cond_true] at h
        split at h
        · rename_i b l
          split at h
          · rename_i ts hts
            obtain ⟨rs, h⟩ := h
            exact op_call_rw ho hc hC hs hd hfv has hts h
          · exact h.elim
        · exact h.elim
  · exact h.elim
end
end Go.Proofs.Ytbofjpmighijhaa.E
