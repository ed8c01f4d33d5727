/- Calls that read and write what an argument refers to. -/
import Derived.Test.YtadpancnhinlbaaEOps8
namespace Go.Proofs.Ytadpancnhinlbaa.E
set_option linter.unusedVariables false
set_option linter.unusedSimpArgs false
section
variable {P : Program} {C : Ctx} {G : Gh} {w : World} {s : St} {a : Act} {o : Oper} {K : St → Prop} {Q : Exit → Act → World → Prop}

def Sof (G : Gh) : A1 → Nat → Prop
  | .own d _ => G.S d
  | _ => fun _ => False
theorem sof_own {c : A1} {b : Nat} (h : Sof G c b) : ∃ d q, c = .own d q ∧ G.S d b := by
  cases c <;> first | exact h.elim | exact ⟨_, _, rfl, h⟩
theorem rw1_out {c : A1} {y : Value} {K' : T → Prop} (hs : Sim G s a w) (hv : V1 G w s.ob c y) (h : rw1 s c K') :
    ∃ t, K' t ∧ Ow w t y (Sof G c) ∧ (∀ d q, c = .own d q → ∃ sv e es, look s.ob d = some (.row q sv e es) ∧ t = .sl e es ∧ y = G.y d) := by
  unfold rw1 at h
  split at h
  · obtain ⟨e, h⟩ := h
    rw [hv.1]
    exact ⟨_, h, .nil, fun d q h => by cases h⟩
  · rw [hv.1]
    exact ⟨_, h, .v (hv.1 ▸ hv.2), fun d q h => by cases h⟩
  · rename_i d q
    split at h
    · rename_i q' sv e es hr
      obtain ⟨rfl, h⟩ := h
      have hy := hv.2 ⟨sv, e, es, hr⟩
      refine ⟨_, h, by rw [hy]; exact (hs.ob d _ hr).2, fun d' q1 he => ?_⟩
      cases he
      exact ⟨sv, e, es, hr, rfl, hy⟩
    · exact h.elim
  · exact h.elim
theorem rwL_out : ∀ {l : List A1} {ys : Nat → Value} {K' : List T → Prop}, Sim G s a w → (∀ j c, l[j]? = some c → V1 G w s.ob c (ys j)) → rwL s l K' →
    ∃ ts, K' ts ∧ ts.length = l.length ∧ ∀ j t c, ts[j]? = some t → l[j]? = some c → Ow w t (ys j) (Sof G c) ∧ (∀ d q, c = .own d q → ∃ sv e es, look s.ob d = some (.row q sv e es) ∧ t = .sl e es ∧ ys j = G.y d)
  | [], ys, K', hs, hv, h => ⟨[], h, rfl, fun j t c h => by simp at h⟩
  | c :: l, ys, K', hs, hv, h => by
    obtain ⟨t, h, hr⟩ := rw1_out hs (hv 0 c rfl) h
    obtain ⟨ts, h, hn, hr2⟩ := rwL_out (ys := fun j => ys (j + 1)) hs (fun j c hc => hv (j + 1) c (by simpa using hc)) h
    refine ⟨t :: ts, h, by simp [hn], fun j t' c' ht hc => ?_⟩
    cases j with
    | zero => simp at ht hc; subst ht; subst hc; exact hr
    | succ j => exact hr2 j t' c' (by simpa using ht) (by simpa using hc)
theorem mem_names {l : List A1} {d q : Nat} (h : A1.own d q ∈ l) : d ∈ names l := by
  induction l with
  | nil => cases h
  | cons x l ih =>
    rcases List.mem_cons.1 h with h1 | h1
    · subst h1; simp [names]
    · have h2 := ih h1
      cases x <;> simp only [names] <;> first | exact h2 | exact List.mem_cons_of_mem _ h2
theorem mem_of {l : List Nat} {x : Nat} (h : mem l x = false) : x ∉ l := by
  induction l with
  | nil => simp
  | cons y l ih =>
    simp only [mem] at h
    cases hb : Nat.beq y x with
    | true => rw [hb] at h; cases h
    | false =>
      rw [hb] at h
      intro hx
      rcases List.mem_cons.1 hx with hx | hx
      · subst hx; rw [Nat.beq_refl] at hb; cases hb
      · exact ih h hx
theorem nodup_cons {x : Nat} {l : List Nat} (h : nodup (x :: l) = true) : x ∉ l ∧ nodup l = true := by
  simp only [nodup] at h
  cases hb : mem l x with
  | true => rw [hb] at h; cases h
  | false => rw [hb] at h; exact ⟨mem_of hb, h⟩
theorem names_inj : ∀ {l : List A1} {i j d q q' : Nat}, nodup (names l) = true → l[i]? = some (.own d q) → l[j]? = some (.own d q') → i = j
  | [], i, j, d, q, q', _, h, _ => by simp at h
  | x :: l, i, j, d, q, q', hn, hi, hj => by
    have rest : nodup (names l) = true ∧ ∀ d q, x = .own d q → d ∉ names l := by
      cases x <;> simp only [names] at hn <;> first | exact ⟨hn, fun d q h => by cases h⟩ | (obtain ⟨h1, h2⟩ := nodup_cons hn; exact ⟨h2, fun d q h => by cases h; exact h1⟩)
    cases i with
    | zero => cases j with
      | zero => rfl
      | succ j =>
        simp at hi hj
        exact absurd (mem_names (List.mem_of_getElem? hj)) (rest.2 d q hi)
    | succ i => cases j with
      | zero =>
        simp at hi hj
        exact absurd (mem_names (List.mem_of_getElem? hi)) (rest.2 d q' hj)
      | succ j => exact congrArg (· + 1) (names_inj rest.1 (by simpa using hi) (by simpa using hj))
theorem sof_apart (hs : Sim G s a w) {l : List A1} (hn : nodup (names l) = true) {i j : Nat} {c c' : A1} (hi : l[i]? = some c) (hj : l[j]? = some c') {b : Nat} (h : Sof G c b) (h' : Sof G c' b) : i = j := by
  cases c <;> first | exact h.elim | skip
  cases c' <;> first | exact h'.elim | skip
  rename_i d q d' q'
  have : d = d' := hs.apart d d' b h h'
  subst this
  exact names_inj hn hi hj
/-- The rows behind what was written. -/
theorem wr1_out {c : A1} {t' : T} {s : St} {K' : St → Prop} (v : Nat) (h : wr1 s c t' K') : ∃ s', K' s' ∧ s'.tm = s.tm ∧ s'.n = s.n ∧ (∀ d, (∀ q, c ≠ .own d q) → look s'.ob d = look s.ob d) ∧
    ∀ d q, c = .own d q → ∃ q' sv e es es', look s.ob d = some (.row q' sv e es) ∧ t' = .sl e es' ∧ look s'.ob d = some (.row q v e es') := by
  unfold wr1 at h
  split at h
  · exact ⟨s, h, rfl, rfl, fun _ _ => rfl, fun d q h => by cases h⟩
  · exact ⟨s, h.2, rfl, rfl, fun _ _ => rfl, fun d q h => by cases h⟩
  · rename_i d q e' es'
    split at h
    · rename_i q' sv e es hr
      cases hb : Nat.beq e' e with
      | false => rw [hb] at h; exact h.elim
      | true =>
        rw [hb] at h
        have : e' = e := Nat.eq_of_beq_eq_true hb
        subst this
        refine ⟨_, h v, rfl, rfl, fun d' hd' => ?_, fun d' q1 he => ?_⟩
        · rw [set_ob, if_neg (fun e => hd' q (by rw [e]))]
        · cases he
          exact ⟨q', sv, e', es, es', hr, rfl, by rw [set_ob, if_pos rfl]⟩
    · exact h.elim
  · exact h.elim
theorem wrL_out (v : Nat) : ∀ {l : List A1} {ts : List T} {s : St} {K' : St → Prop}, nodup (names l) = true → wrL l ts s K' → ts.length = l.length ∧ ∃ s', K' s' ∧ s'.tm = s.tm ∧ s'.n = s.n ∧ (∀ d, d ∉ names l → look s'.ob d = look s.ob d) ∧
    ∀ (j d q : Nat), l[j]? = some (.own d q) → ∃ (q' sv e : Nat) (es es' : List T), look s.ob d = some (.row q' sv e es) ∧ ts[j]? = some (.sl e es') ∧ look s'.ob d = some (.row q v e es')
  | [], [], s, K', _, h => ⟨rfl, s, h, rfl, rfl, fun _ _ => rfl, fun j d q h => by simp at h⟩
  | c :: l, t :: ts, s, K', hn, h => by
    simp only [wrL] at h
    obtain ⟨s1, h, htm, hsn, hother, hown⟩ := wr1_out v h
    have rest : nodup (names l) = true ∧ ∀ d q, c = .own d q → d ∉ names l := by
      cases c <;> simp only [names] at hn <;> first | exact ⟨hn, fun d q h => by cases h⟩ | (obtain ⟨h1, h2⟩ := nodup_cons hn; exact ⟨h2, fun d q h => by cases h; exact h1⟩)
    obtain ⟨hlen, s2, h, htm2, hsn2, hother2, hown2⟩ := wrL_out v rest.1 h
    refine ⟨by simp [hlen], s2, h, htm2.trans htm, hsn2.trans hsn, fun d hd => ?_, fun j d q hj => ?_⟩
    · have h1 : d ∉ names l := fun hin => hd (by cases c <;> simp only [names] <;> first | exact hin | exact List.mem_cons_of_mem _ hin)
      rw [hother2 d h1]
      exact hother d (fun q he => hd (by rw [he]; simp [names]))
    · cases j with
      | zero =>
        simp at hj
        obtain ⟨q', sv, e, es, es', h1, h2, h3⟩ := hown d q hj
        exact ⟨q', sv, e, es, es', h1, by simp [h2], by rw [hother2 d (rest.2 d q hj)]; exact h3⟩
      | succ j =>
        simp at hj
        obtain ⟨q', sv, e, es, es', h1, h2, h3⟩ := hown2 j d q hj
        refine ⟨q', sv, e, es, es', ?_, by simpa using h2, h3⟩
        rw [← hother d (fun q1 he => absurd (mem_names (List.mem_of_getElem? hj)) (rest.2 d q1 he))]; exact h1
  | [], _ :: _, s, K', _, h => h.elim
  | _ :: _, [], s, K', _, h => h.elim
theorem scal_out : ∀ {l : List A2} {ts : List T}, scal l = some ts → ts.length = l.length ∧ ∀ (j : Nat) (t : T), ts[j]? = some t → ∃ x, t = .v x ∧ l[j]? = some (A2.c (.v x))
  | [], ts, h => by simp [scal] at h; subst h; exact ⟨rfl, fun j t h => by simp at h⟩
  | x :: l, ts, h => by
    unfold scal at h
    split at h
    · rename_i heq; cases heq
    · cases h
    · rename_i y l' _ heq
      cases heq
      split at h
      · rename_i ts' hts
        cases h
        obtain ⟨hn, hv⟩ := scal_out hts
        refine ⟨by simp [hn], fun j t ht => ?_⟩
        cases j with
        | zero => simp at ht; subst ht; exact ⟨y, rfl, rfl⟩
        | succ j => simpa using hv j t (by simpa using ht)
      · cases h
    · cases h
theorem op_call_rw {c : Call} {f : Operand} {g : Nat} {b : A2} {l : List A2} {ts rs : List T} (ho : o.op = .call c) (hc : c.callee = .value f) (hC : CtxOk P C) (hs : Sim G s a w) (hd : okDst o.dst s.n = true) (hf : a.eval f = .func (.func g) #[] #[]) (has : evs s c.args.toList = some (b :: l)) (hsc : scal l = some ts)
    (h : rwA s b (fun t t' => C.Sp g (.rw t t' :: ts.map .ro) rs) fun s => ∀ q, K ((thR (nm o.dst) q s rs).2.put o.dst (thR (nm o.dst) q s rs).1)) : o.wp P a w (After G K) Q := by
  obtain ⟨hn, hv⟩ := evs_out hs has
  obtain ⟨hsn, hsv⟩ := scal_out hsc
  have hv0 := hv 0 b rfl
  generalize hvals : c.args.toList.map a.eval = vals at hv hv0
  have hvl : vals.length = (b :: l).length := by rw [← hvals]; simpa using hn.symm
  -- the call with the blocks R of the first argument
  have go : ∀ {t t' : T} {R : Nat → Prop}, C.Sp g (.rw t t' :: ts.map .ro) rs → Ow2 w t (vals.getD 0 undef) R → RInv w R →
      (∀ x w' (S S0 : Nat → Prop), Outs w' rs x S → Ow2 w' t' (vals.getD 0 undef) S0 → (∀ b, S b → w.heap.size ≤ b ∧ b < w'.heap.size) → (∀ b, S0 b → b < w'.heap.size ∧ (w.heap.size ≤ b ∨ R b)) → (∀ b, S b → ¬ S0 b) → Up w w' → (∀ b, b < w.heap.size → ¬ R b → w'.heap[b]? = w.heap[b]?) → After G K (a.put o.dst x) w') → o.wp P a w (After G K) Q := by
    intro t t' R hsp hown hR hfin
    refine wp_call (R := R) ho hc hf (hC.sp _ _ _ hsp) hR ?_ (fun x w' hret => ?_)
    · rw [hvals]
      refine ⟨by simp [hvl, hsn], fun i => match i with | 0 => R | _ => fun _ => False, fun i b hb => ?_, fun i j b hi hj => ?_, fun i x hx => ?_⟩
      · cases i with
        | zero => exact hb
        | succ i => exact hb.elim
      · cases i <;> cases j <;> first | rfl | exact hi.elim | exact hj.elim
      · cases i with
        | zero => simp at hx; subst hx; exact hown
        | succ i =>
          simp only [List.getElem?_cons_succ, List.getElem?_map, Option.map_eq_some_iff] at hx
          obtain ⟨t1, ht1, rfl⟩ := hx
          obtain ⟨y, rfl, hy⟩ := hsv i t1 ht1
          have := (hv (i + 1) _ (by simpa using hy)).1
          show Rd2 w _ (.v y) _
          rw [this.1]; exact .v (this.1 ▸ this.2)
    · obtain ⟨x', S, Ss, he, hout, hargs, hS, hSs, hdis, _, hgr, hold⟩ := hret
      cases he
      rw [hvals] at hargs
      exact hfin x w' S (Ss 0) hout (hargs 0 _ rfl) (fun b hb => ⟨(hS b hb).1.elim id (fun h => by have := h.1; rw [show hasMv (.rw t t' :: ts.map .ro) = hasMv (ts.map .ro) from rfl, hasMv_ro] at this; cases this), (hS b hb).2⟩) (hSs 0) (hdis 0) hgr hold
  -- behind it
  have fin : ∀ {G1 : Gh} {s1 : St} {w' : World} {x : Value} {S : Nat → Prop}, Sim G1 s1 a w' → Keep G G1 → s1.n = s.n → Outs w' rs x S → (∀ b, S b → b < w'.heap.size ∧ (G1.w0.heap.size ≤ b ∨ G1.R b) ∧ ∀ d, ¬ G1.S d b) → (∀ q, K ((thR (nm o.dst) q s1 rs).2.put o.dst (thR (nm o.dst) q s1 rs).1)) → After G K (a.put o.dst x) w' := by
    intro G1 s1 w' x S hs1 hk hsn1 hout hS hK
    obtain ⟨G', hk', hs2, hv2, hl2, hn2⟩ := thR_out (B := 1000) (q := G1.k) (d := nm o.dst) hs1 (Nat.le_refl _) (nm_ge _) hout hS
    exact after_of (hs2.put (by rw [hn2, hsn1]; exact hd) hv2 hl2) (hk.trans hk') (hK G1.k)
  unfold rwA at h
  split at h
  · rename_i l0
    cases hnd : nodup (names l0) with
    | false => rw [hnd] at h; exact h.elim
    | true =>
      rw [hnd] at h
      simp only [cond_true] at h
      obtain ⟨vs, hval, hvn, hvv⟩ := hv0.1
      obtain ⟨ts0, ⟨ts', hsp, h⟩, htn, hts⟩ := rwL_out (ys := fun j => vs.getD j undef) hs (fun j c hc => (hvv j c hc).1) h
      obtain ⟨htn', s1, hK, htm1, hn1, hother, hrows⟩ := wrL_out G.k hnd h
      let R : Nat → Prop := fun b => ∃ (j : Nat) (c : A1), l0[j]? = some c ∧ Sof G c b
      let Sx : Nat → Nat → Prop := fun j b => ∃ (c : A1), l0[j]? = some c ∧ Sof G c b
      have hRlt : ∀ b, R b → b < w.heap.size ∧ (G.w0.heap.size ≤ b ∨ G.R b) := fun b ⟨j, c, hc, hb⟩ => by cases c <;> first | exact hb.elim | exact hs.own _ b hb
      refine go (R := R) hsp ⟨vs, Sx, hval, ⟨by omega, fun j t ht => ?_⟩, fun j b ⟨c, hc, hb⟩ => ⟨j, c, hc, hb⟩, fun i j b ⟨c, hc, hb⟩ ⟨c', hc', hb'⟩ => sof_apart hs hnd hc hc' hb hb'⟩ (hs.toR hRlt) (fun x w' S S0 hout how hS hS0 hdis hgr hold => ?_)
      · have hj : j < l0.length := by rw [← htn]; exact (List.getElem?_eq_some_iff.1 ht).1
        exact (hts j t _ ht (List.getElem?_eq_getElem hj)).1.sup (fun b hb => ⟨_, List.getElem?_eq_getElem hj, hb⟩)
      · obtain ⟨vs', Ss', hval', ⟨hvn', hcells⟩, hsub, hap⟩ := how
        rw [hval] at hval'
        have hvs : vs' = vs := by injection hval' with h; exact (List.toArray_inj h).symm
        subst hvs
        have hmem : ∀ d, d ∈ names l0 → ∃ (j q : Nat), l0[j]? = some (A1.own d q) := by
          intro d hd
          have : ∀ l : List A1, d ∈ names l → ∃ (j q : Nat), l[j]? = some (A1.own d q) := by
            intro l
            induction l with
            | nil => intro h; cases h
            | cons x l ih =>
              intro h
              have tail : d ∈ names l → ∃ (j q : Nat), (x :: l)[j]? = some (A1.own d q) := fun h => by obtain ⟨j, q, hj⟩ := ih h; exact ⟨j + 1, q, by simpa using hj⟩
              cases x <;> simp only [names] at h <;> first | exact tail h | (exact (List.mem_cons.1 h).elim (fun h => ⟨0, _, by rw [h]; rfl⟩) tail)
          exact this l0 hd
        let D : Nat → Prop := fun d => d ∈ names l0
        let Sn : Nat → Nat → Prop := fun d b => ∃ (j q : Nat), l0[j]? = some (.own d q) ∧ Ss' j b
        have hs1 : Sim { G with k := G.k + 1, S := fun d => if D d then Sn d else G.S d } s1 a w' := by
          refine hs.wroteD D hn1 htm1 hgr (fun b hb hR => hold b (by have := hs.grown; omega) (fun hr => ?_)) (fun d b hd hb => hold b (hs.own d b hb).1 (fun hr => ?_)) (fun d hd => hother d hd) (fun d hd => ?_) (fun d b hd hb => ?_)
          · rcases (hRlt b hr).2 with h | h
            · omega
            · exact hR h
          · obtain ⟨j, c, hc, hb'⟩ := hr
            cases c <;> first | exact hb'.elim | skip
            rename_i d' q'
            have : d = d' := hs.apart d d' b hb hb'
            subst this
            exact hd (mem_names (List.mem_of_getElem? hc))
          · obtain ⟨j, q, hj⟩ := hmem d hd
            obtain ⟨q', sv, e, es, es', h1, h2, h3⟩ := hrows j d q hj
            have hjt : j < ts0.length := by rw [htn]; exact (List.getElem?_eq_some_iff.1 hj).1
            obtain ⟨_, hown⟩ := hts j _ _ (List.getElem?_eq_getElem hjt) hj
            obtain ⟨sv', e', es0, h4, _, h6⟩ := hown d q rfl
            rw [h4] at h1
            cases h1
            refine ⟨q, sv, e, es, es', h4, h3, ?_⟩
            rw [← h6]
            exact (hcells j _ h2).sup (fun b hb => ⟨j, q, hj, hb⟩)
          · obtain ⟨j, q, hj, hb'⟩ := hb
            obtain ⟨h1, h2⟩ := hS0 b (hsub j b hb')
            refine ⟨h1, ?_, fun d' hd' hb2 => ?_, fun d' hd' hb2 => ?_⟩
            · rcases h2 with h2 | h2
              · left; have := hs.grown; omega
              · exact (hRlt b h2).2
            · rcases h2 with h2 | ⟨j', c, hc, hb3⟩
              · have := (hs.own d' b hb2).1; omega
              · cases c <;> first | exact hb3.elim | skip
                rename_i d2 q2
                have : d' = d2 := hs.apart d' d2 b hb2 hb3
                subst this
                exact hd' (mem_names (List.mem_of_getElem? hc))
            · obtain ⟨j2, q2, hj2, hb3⟩ := hb2
              have : j = j2 := hap j j2 b hb' hb3
              subst this
              rw [hj] at hj2; cases hj2; rfl
        refine fin hs1 ⟨rfl, rfl, rfl, fun _ _ => rfl, fun _ _ => rfl⟩ hn1 hout (fun b hb => ?_) hK
        obtain ⟨h1, h2⟩ := hS b hb
        refine ⟨h2, .inl (by show G.w0.heap.size ≤ b; have := hs.grown; omega), fun d hd => ?_⟩
        have hd' : (fun d => if D d then Sn d else G.S d) d b := hd
        by_cases hD : D d
        · simp only [hD, if_true] at hd'
          obtain ⟨j, q, hj, hb'⟩ := hd'
          exact hdis b hb (hsub j b hb')
        · simp only [hD, if_false] at hd'
          have := (hs.own d b hd').1; omega
  · rename_i d q sv j
    split at h
    · rename_i q' sv' e es hr
      obtain ⟨rfl, rfl, k, off, t, x, x', rfl, hoff, ht, hx, hsp, h⟩ := h
      have hv1 := hv0.1
      have how := (hs.ob d _ hr).2
      have hk : k < es.length := (List.getElem?_eq_some_iff.1 ht).1
      have how' := how
      cases hyd : G.y d with
      | slice A n c =>
        rw [hyd] at how
        cases how with
        | nil => simp at hk
        | @row _ g o' _ cur te _ Ss S h1 h2 h3 h4 h5 h6 h7 h8 h9 =>
        have hcl : t.cells.length = e := h4 t (List.mem_of_getElem? ht)
        have hat : (flat es)[k * e + off]? = some x := by rw [flat_get h4 ht hoff]; exact hx
        have hj : k * e + off < (flat es).length := (List.getElem?_eq_some_iff.1 hat).1
        have hfl := flat_len h4
        have hcap : es.length * e ≤ c * e := Nat.mul_le_mul_right _ h2
        obtain ⟨g2, o2, n2, c2, hy2, hc2⟩ := hv1.2 ⟨e, es, hr, hj⟩
        rw [hyd] at hy2
        cases hy2
        have hc3 := hc2
        rw [cell_arr h1, getD_arr (d := undef) (by omega)] at hc3
        have hval : vals.getD 0 undef = cur.getD (o' + (k * e + off)) undef := by injection hc3 with h; exact h.symm
        have hox := h5 _ x hat
        rw [← hval] at hox
        have how2 : Ow2 w x (vals.getD 0 undef) (Ss (k * e + off)) := by cases x <;> first | exact hox | cases hox
        have hxc : x.cells = [x] := by cases x <;> first | rfl | cases hox
        refine go (R := Ss (k * e + off)) hsp how2 (hs.toR (fun b hb => hs.own d b (h8 _ b hb))) (fun xr w' Sr S0 hout how0 hS hS0 hdis hgr hold => ?_)
        have hone : (vals.getD 0 undef).oneCell' = true := hox.one
        have hox' : Ow w' x' (vals.getD 0 undef) S0 := by
          cases x' with
          | v z => exact how0
          | sl e2 es2 => exact how0
          | cl g2 x2 => exact how0
          | rp x2 => exact how0
          | agg l =>
            obtain ⟨vs, _, hv, _⟩ := how0
            rw [hv] at hone; simp [Value.oneCell'] at hone
        have hxc' : ∀ y ∈ [x'], y.cells = [y] := fun y hy => by
          simp at hy; subst hy
          cases y <;> first | rfl | cases hox'
        have hsc := setCells_eq (t := t) (off := off) hxc' (by simp; omega)
        have hk2 : (k + 1) * e ≤ es.length * e := Nat.mul_le_mul_right _ (by omega)
        rw [Nat.succ_mul] at hk2
        have hget : ∀ i, (flat (es.set k (t.setCells off [x'])))[i]? = if i = k * e + off then some x' else (flat es)[i]? := by
          intro i
          rw [flat_set _ h4 ht (by rw [setCells_len hxc', hcl]), hsc, setL_get _ _ _ _ (by rw [setL_len]; omega), setL_len]
          by_cases hi : k * e ≤ i ∧ i < k * e + t.cells.length
          · rw [if_pos hi, setL_get _ _ _ _ (by simp; omega)]
            by_cases hi2 : i = k * e + off
            · subst hi2
              rw [if_pos (by simp), if_pos rfl]
              simp
            · rw [if_neg (by simp; omega), if_neg hi2]
              obtain ⟨m, rfl⟩ : ∃ m, i = k * e + m := ⟨i - k * e, by omega⟩
              rw [flat_get h4 ht (by omega)]; congr 1; omega
          · rw [if_neg hi, if_neg (by omega)]
        have hgR : ¬ Ss (k * e + off) g := h7 _
        have hgw : w'.heap[g]? = some (.cells cur te (0, 0)) := (hold g (hs.own d g h6).1 hgR).trans h1
        have hS0g : ¬ S0 g := fun hg => by
          rcases (hS0 g hg).2 with h | h
          · have := (hs.own d g h6).1; omega
          · exact hgR h
        let Sn : Nat → Prop := fun b => (G.S d b ∧ ¬ Ss (k * e + off) b) ∨ S0 b
        have hlen2 : es.length = (es.set k (t.setCells off [x'])).length := by simp
        have hown : Ow w' (.sl e (es.set k (t.setCells off [x']))) (G.y d) Sn := by
          rw [hyd, show Value.slice (some ⟨g, o', none⟩) es.length c = Value.slice (some ⟨g, o', none⟩) (es.set k (t.setCells off [x'])).length c by rw [← hlen2]]
          refine .row (Ss := fun i b => if i = k * e + off then S0 b else Ss i b) hgw (by rw [← hlen2]; exact h2) h3 (fun y hy => ?_) (fun i ct hi => ?_) (.inl ⟨h6, hgR⟩) (fun i hi => ?_) (fun i b hi => ?_) (fun i i' b hi hi' => ?_)
          · rcases List.mem_or_eq_of_mem_set hy with h | h
            · exact h4 y h
            · rw [h, setCells_len hxc', hcl]
          · rw [hget] at hi
            by_cases hi2 : i = k * e + off
            · rw [if_pos hi2] at hi
              cases hi
              simp only [hi2, if_true]
              rw [← hval]; exact hox'
            · rw [if_neg hi2] at hi
              simp only [hi2, if_false]
              exact (h5 i ct hi).move (fun b hb => hold b (hs.own d b (h8 i b hb)).1 (fun hr => hi2 (h9 _ _ b hb hr)))
          · by_cases hi2 : i = k * e + off
            · simp only [hi2, if_true] at hi; exact hS0g hi
            · simp only [hi2, if_false] at hi; exact h7 i hi
          · by_cases hi2 : i = k * e + off
            · simp only [hi2, if_true] at hi; exact .inr hi
            · simp only [hi2, if_false] at hi; exact .inl ⟨h8 i b hi, fun hr => hi2 (h9 _ _ b hi hr)⟩
          · have out : ∀ {i : Nat}, i ≠ k * e + off → Ss i b → S0 b → False := fun {i} hne hb h0 => by
              rcases (hS0 b h0).2 with h | h
              · have := (hs.own d b (h8 i b hb)).1; omega
              · exact hne (h9 _ _ b hb h)
            by_cases hi2 : i = k * e + off
            · by_cases hi3 : i' = k * e + off
              · omega
              · simp only [hi2, hi3, if_true, if_false] at hi hi'; exact (out hi3 hi' hi).elim
            · by_cases hi3 : i' = k * e + off
              · simp only [hi2, hi3, if_true, if_false] at hi hi'; exact (out hi2 hi hi').elim
              · simp only [hi2, hi3, if_false] at hi hi'; exact h9 i i' b hi hi'
        have hs1 := hs.wrote hr (w' := w') (es' := es.set k (t.setCells off [x'])) (Sn := Sn) hgr (fun b hb hR => hold b (by have := hs.grown; omega) (fun hr => by
            rcases (hs.own d b (h8 _ b hr)).2 with h | h
            · omega
            · exact hR h)) (fun d' b hd' hb => hold b (hs.own d' b hb).1 (fun hr => hd' (hs.apart d' d b hb (h8 _ b hr)))) hown (fun b hb => by
            rcases hb with ⟨hb, _⟩ | hb
            · exact ⟨Nat.lt_of_lt_of_le (hs.own d b hb).1 hgr.size, (hs.own d b hb).2, fun d' hd' hb' => hd' (hs.apart d' d b hb' hb)⟩
            · obtain ⟨h1', h2'⟩ := hS0 b hb
              refine ⟨h1', ?_, fun d' hd' hb' => ?_⟩
              · rcases h2' with h | h
                · left; have := hs.grown; omega
                · exact (hs.own d b (h8 _ b h)).2
              · rcases h2' with h | h
                · have := (hs.own d' b hb').1; omega
                · exact hd' (hs.apart d' d b hb' (h8 _ b h)))
        refine fin hs1 ⟨rfl, rfl, rfl, fun _ _ => rfl, fun _ _ => rfl⟩ rfl hout (fun b hb => ?_) (h G.k)
        obtain ⟨h1', h2'⟩ := hS b hb
        refine ⟨h2', .inl (by show G.w0.heap.size ≤ b; have := hs.grown; omega), fun d' hd' => ?_⟩
        have hd2 : upd G.S d Sn d' b := hd'
        by_cases hdd : d' = d
        · subst hdd
          rw [upd_same] at hd2
          rcases hd2 with ⟨h, _⟩ | h
          · have := (hs.own d' b h).1; omega
          · exact hdis b hb h
        · rw [upd_other _ _ hdd] at hd2
          have := (hs.own d' b hd2).1; omega
      | _ => rw [hyd] at how'; cases how'
    · exact h.elim
  · rename_i x0 hne
    clear hne
    obtain ⟨t, ⟨t', hsp, h⟩, how0, hownx⟩ := rw1_out hs hv0.1 h
    obtain ⟨s1, hK, htm1, hn1, hother, hrows⟩ := wr1_out G.k h
    have hRlt : ∀ b, Sof G x0 b → b < w.heap.size ∧ (G.w0.heap.size ≤ b ∨ G.R b) := fun b hb => by cases x0 <;> first | exact hb.elim | exact hs.own _ b hb
    have how2 : Ow2 w t (vals.getD 0 undef) (Sof G x0) := by cases t <;> first | exact how0 | cases how0
    refine go (R := Sof G x0) hsp how2 (hs.toR hRlt) (fun x w' S S0 hout how hS hS0 hdis hgr hold => ?_)
    have hmem : ∀ d, d ∈ names [x0] → ∃ q, x0 = .own d q := fun d hd => by
      cases x0 <;> simp only [names] at hd <;> first | (cases hd; done) | (rcases List.mem_cons.1 hd with h | h <;> first | (exact ⟨_, by rw [h]⟩) | cases h)
    have hs1 : Sim { G with k := G.k + 1, S := fun d => if d ∈ names [x0] then S0 else G.S d } s1 a w' := by
      refine hs.wroteD (fun d => d ∈ names [x0]) (Sn := fun _ => S0) hn1 htm1 hgr (fun b hb hR => hold b (by have := hs.grown; omega) (fun hr => ?_)) (fun d b hd hb => hold b (hs.own d b hb).1 (fun hr => ?_)) (fun d hd => hother d (fun q he => hd (by rw [he]; simp [names]))) (fun d hd => ?_) (fun d b hd hb => ?_)
      · rcases (hRlt b hr).2 with h | h
        · omega
        · exact hR h
      · obtain ⟨d', q', rfl, hr'⟩ := sof_own hr
        have : d = d' := hs.apart d d' b hb hr'
        subst this
        exact hd (by simp [names])
      · obtain ⟨q, hq⟩ := hmem d hd
        obtain ⟨q', sv, e, es, es', h1, h2, h3⟩ := hrows d q hq
        obtain ⟨sv', e', es0, h4, _, h6⟩ := hownx d q hq
        rw [h4] at h1
        cases h1
        subst h2
        refine ⟨q, sv, e, es, es', h4, h3, ?_⟩
        rw [← h6]; exact how
      · obtain ⟨h1, h2⟩ := hS0 b hb
        refine ⟨h1, ?_, fun d' hd' hb2 => ?_, fun d' hd' _ => ?_⟩
        · rcases h2 with h2 | h2
          · left; have := hs.grown; omega
          · exact (hRlt b h2).2
        · rcases h2 with h2 | h2
          · have := (hs.own d' b hb2).1; omega
          · obtain ⟨d2, q2, rfl, h3⟩ := sof_own h2
            have : d' = d2 := hs.apart d' d2 b hb2 h3
            subst this
            exact hd' (by simp [names])
        · obtain ⟨q1, h1⟩ := hmem d hd
          obtain ⟨q2, h2⟩ := hmem d' hd'
          rw [h1] at h2; cases h2; rfl
    refine fin hs1 ⟨rfl, rfl, rfl, fun _ _ => rfl, fun _ _ => rfl⟩ hn1 hout (fun b hb => ?_) hK
    obtain ⟨h1, h2⟩ := hS b hb
    refine ⟨h2, .inl (by show G.w0.heap.size ≤ b; have := hs.grown; omega), fun d hd => ?_⟩
    have hd' : (fun d => if d ∈ names [x0] then S0 else G.S d) d b := hd
    by_cases hD : d ∈ names [x0]
    · simp only [hD, if_true] at hd'
      exact hdis b hb hd'
    · simp only [hD, if_false] at hd'
      have := (hs.own d b hd').1; omega
theorem op_call_mv {c : Call} {f : Operand} {g : Nat} {b : A2} {l : List A2} (ho : o.op = .call c) (hc : c.callee = .value f) (hC : CtxOk P C) (hs : Sim G s a w) (hd : okDst o.dst s.n = true) (hf : a.eval f = .func (.func g) #[] #[]) (has : evs s c.args.toList = some (b :: l))
    (h : mv2 s b fun t s' => argR s' l fun ts => ∃ rs, C.Sp g (.mv t :: ts.map .ro) rs ∧ ∀ q, K ((thR (nm o.dst) q s' rs).2.put o.dst (thR (nm o.dst) q s' rs).1)) : o.wp P a w (After G K) Q := by
  obtain ⟨hn, hv⟩ := evs_out hs has
  have hv0 := hv 0 b rfl
  obtain ⟨t, s1, G1, Sx, h, hg, how, hfree⟩ := mv2_out hs hv0.1 hv0.2 h
  obtain ⟨ts, ⟨rs, hsp, h⟩, hn2, hr⟩ := argR_out (ys := fun j => (c.args.toList.map a.eval).getD (j + 1) undef) hg.sim (fun j c hc => by
    have := hv (j + 1) c (by simpa using hc)
    exact V2.ext hg.ext this.2 this.1) h
  have hn' : l.length + 1 = c.args.size := by simpa using hn
  let R : Nat → Prop := fun b => ∃ j, Sx j b
  have hRlt : ∀ b, R b → b < w.heap.size ∧ (G.w0.heap.size ≤ b ∨ G.R b) := fun b ⟨j, hb⟩ => by obtain ⟨d, hd⟩ := (hfree j).was b hb; exact hs.own d b hd
  have hRno : ∀ b, Zs G1 b → ¬ R b := fun b hz ⟨j, hb⟩ => by
    rcases hz with hz | ⟨d, hz⟩
    · have h1 := hz.1
      have h2 := hz.2
      rw [hg.keep.w0] at h1
      rw [hg.keep.R] at h2
      rcases (hRlt b ⟨j, hb⟩).2 with h | h
      · omega
      · exact h2 h
    · exact (hfree j).now b d hb hz
  refine wp_call (R := R) ho hc hf (hC.sp _ _ _ hsp) (hs.toR hRlt) ⟨by simp; omega, fun i => match i with | 0 => R | _ => fun _ => False, fun i b hb => ?_, fun i j b hi hj => ?_, fun i x hx => ?_⟩ (fun x w' hret => ?_)
  · cases i with
    | zero => exact hb
    | succ i => exact hb.elim
  · cases i <;> cases j <;> first | rfl | exact hi.elim | exact hj.elim
  · cases i with
    | zero => simp at hx; subst hx; exact how.1
    | succ i =>
      simp only [List.getElem?_cons_succ, List.getElem?_map, Option.map_eq_some_iff] at hx
      obtain ⟨t1, ht1, rfl⟩ := hx
      exact (hr i t1 ht1).sup (fun b hb => ⟨zs_lt hg.sim hb, hRno b hb⟩)
  · obtain ⟨x', S, Ss, he, hout, _, hS, _, _, _, hgr, hold⟩ := hret
    cases he
    have hgs := hgr.size
    have hs' : Sim G1 s1 a w' := by
      have E : Ext G1 w s1.ob G1 w' s1.ob := ext_same hg.sim rfl rfl rfl (Nat.le_refl _) (fun d x q hx _ _ => ⟨hx, rfl, rfl⟩) (fun d b hb _ => hold b (hg.sim.own d b hb).1 (hRno b (.inr ⟨d, hb⟩)))
      refine hg.sim.turn rfl (fun _ => rfl) E hgr (fun b hb hR => hold b (by have := hg.sim.grown; omega) (hRno b (.inl ⟨hb, hR⟩))) (fun d x hx => (hg.sim.ob d x hx).ext E rfl rfl (fun _ => Iff.rfl) (fun b hb => hold b (hg.sim.own d b hb).1 (hRno b (.inr ⟨d, hb⟩)))) (fun d b hb => by have := hg.sim.own d b hb; exact ⟨by omega, this.2⟩) hg.sim.apart
    obtain ⟨G', hk, hs2, hv2, hl2, hn2⟩ := thR_out (B := 1000) (q := G1.k) (d := nm o.dst) hs' (Nat.le_refl _) (nm_ge _) hout (fun b hb => by
      obtain ⟨h1, h2⟩ := hS b hb
      refine ⟨h2, ?_, fun d hd => ?_⟩
      · rcases h1 with h1 | h1
        · left; rw [hg.keep.w0]; have := hs.grown; omega
        · rw [hg.keep.w0, hg.keep.R]; exact (hRlt b h1.2).2
      · rcases h1 with h1 | h1
        · have := (hg.sim.own d b hd).1; omega
        · exact hRno b (.inr ⟨d, hd⟩) h1.2)
    exact after_of (hs2.put (by rw [hn2, hg.n]; exact hd) hv2 hl2) (hg.keep.trans hk) (h G1.k)
/-- A call of a function literal. -/
theorem op_call_cl {c : Call} {f : Operand} {g : Nat} {x0 : Value} {aas : List A2} (ho : o.op = .call c) (hc : c.callee = .value f) (hC : CtxOk P C) (hs : Sim G s a w) (hd : okDst o.dst s.n = true) (hf : V1 G w s.ob (.cl g x0) (a.eval f)) (has : evs s c.args.toList = some aas)
    (h : argR s aas fun ts => ∃ rs, C.Sp g ((ts ++ [T.rp x0]).map Ar.ro) rs ∧ ∀ q, K ((thR (nm o.dst) q s rs).2.put o.dst (thR (nm o.dst) q s rs).1)) : o.wp P a w (After G K) Q := by
  obtain ⟨hn, hv⟩ := evs_out hs has
  obtain ⟨ts, ⟨rs, hsp, h⟩, hn2, hr⟩ := argR_out hs (fun j c hc => (hv j c hc).1) h
  have hn' : aas.length = c.args.size := by simpa using hn
  have hf' : Rd G.w0 G.Z (.cl g x0) (a.eval f) := hf
  generalize hy : a.eval f = y at hf'
  cases hf' with
  | @cl _ _ ad hz hcell hone =>
  have hsp' := hC.sp _ _ _ hsp
  have hcal : Callable P g := hsp'.1
  have hrun : (execOp a.eval o).run P w = .ok (.enter g (c.args.toList.map a.eval ++ [Value.pointer (some ad)]).toArray) w := by
    obtain ⟨fn, h1, h2, h3⟩ := hcal
    have harr : c.args.map a.eval = (c.args.toList.map a.eval).toArray := Array.ext' (by simp)
    simp only [execOp, ho, resolve, hc, hy, Deferred.ofValue, Sem.run_bind, Sem.run_pure, Result.andThen_ok, invoke, callFunc, program, Sem.run, h1, h2, h3, Array.empty_append, harr]
    simp
  unfold Oper.wp
  rw [hrun]
  show Calls P g _ w _
  have hadlt : ad.block < w.heap.size := by have := hz.1; have := hs.grown; omega
  refine (hsp'.2 w _ (fun _ => False) (hs.toR (fun _ h => h.elim)) ⟨by simp; omega, fun _ _ => False, fun _ _ h => h, fun _ _ _ h => h.elim, fun i x hx => ?_⟩).mono fun e w' hret => ?_
  · rw [List.getElem?_map, Option.map_eq_some_iff] at hx
    obtain ⟨t, ht, rfl⟩ := hx
    have hvl : (c.args.toList.map a.eval).length = ts.length := by simp; omega
    rw [List.getD_eq_getElem?_getD]
    by_cases hi : i < ts.length
    · rw [List.getElem?_append_left hi] at ht
      rw [List.getElem?_append_left (by omega)]
      have := (hr i t ht).sup (fun b hb => zs_lt hs hb)
      rw [List.getD_eq_getElem?_getD] at this
      simpa using this
    · rw [List.getElem?_append_right (by omega)] at ht
      have hi' : i = ts.length := by
        have := (List.getElem?_eq_some_iff.1 ht).1
        simp at this; omega
      subst hi'
      simp at ht
      subst ht
      rw [List.getElem?_append_right (by omega), hvl, Nat.sub_self]
      exact Rd.rp ⟨hadlt, fun h => h⟩ ((old_cell hs hz).trans hcell) hone
  · obtain ⟨x', S, Ss, rfl, hout, _, hS, _, _, _, hgr, hold⟩ := hret
    have hs' := hs.world hgr (fun b hb => hold b hb (fun h => h))
    obtain ⟨G', hk, hs2, hv2, hl2, hn2⟩ := thR_out (q := G.k) (d := nm o.dst) hs' (Nat.le_refl _) (nm_ge _) hout (fun b hb => by
      have := hS b hb
      have h0 := this.1.elim id (fun h => h.2.elim)
      exact ⟨this.2, .inl (by have := hs.grown; omega), fun d hd => by have := (hs.own d b hd).1; omega⟩)
    exact after_of (hs2.put (by rw [hn2]; exact hd) hv2 hl2) hk (h G.k)
theorem unR_out : ∀ {l : List A1} {ts : List T} {vs : List Value}, unR l = some ts → VL G w s.ob l vs → Sim G s a w → ts.length = l.length ∧ ∀ j t, ts[j]? = some t → Rd w G.Z t (vs.getD j undef)
  | [], ts, vs, h, _, _ => by simp [unR] at h; subst h; exact ⟨rfl, fun j t h => by simp at h⟩
  | c :: l, ts, vs, h, hv, hs => by
    obtain ⟨hn, hv⟩ := hv
    cases vs with
    | nil => cases hn
    | cons y vs =>
    have hv0 := hv 0 c rfl
    have hv' : VL G w s.ob l vs := ⟨by simpa using hn, fun j a ha => by have := hv (j + 1) a (by simpa using ha); simpa using this⟩
    have mv : ∀ {t : T}, Rd G.w0 G.Z t y → Rd w G.Z t y := fun h => h.move (fun b hb => hs.old b hb.1 hb.2)
    have fin : ∀ {t : T} {ts' : List T}, unR l = some ts' → ts = t :: ts' → Rd w G.Z t y → ts.length = (c :: l).length ∧ ∀ j t, ts[j]? = some t → Rd w G.Z t ((y :: vs).getD j undef) := by
      intro t ts' hl he ht
      subst he
      obtain ⟨h1, h2⟩ := unR_out hl hv' hs
      refine ⟨by simp [h1], fun j t' ht' => ?_⟩
      cases j with
      | zero => simp at ht'; subst ht'; exact ht
      | succ j => simpa using h2 j t' (by simpa using ht')
    unfold unR at h
    split at h
    · rename_i x ts' hl
      cases h
      have e : y = x := hv0.1.1
      subst e
      exact fin hl rfl (.v hv0.1.2)
    · rename_i e es ts' hl
      cases h
      exact fin hl rfl (mv hv0.1)
    · rename_i j0 e es ts' hl
      cases h
      exact fin hl rfl (mv hv0.1.2)
    · cases h
theorem upB_get : ∀ {l : List A1} {ts : List T} {j : Nat} {x : A1}, ts.length = l.length → (upB l ts)[j]? = some x → ∃ a t, l[j]? = some a ∧ ts[j]? = some t ∧ ((∃ z, t = .v z ∧ x = .v z) ∨ (∀ z, t ≠ .v z) ∧ x = a)
  | [], ts, j, x, _, h => by simp [upB] at h
  | a :: l, [], j, x, h, _ => by cases h
  | a :: l, t :: ts, j, x, hn, h => by
    cases j with
    | zero =>
      simp only [upB, List.getElem?_cons_zero, Option.some.injEq] at h
      refine ⟨a, t, rfl, rfl, ?_⟩
      cases t with
      | v z => exact .inl ⟨z, rfl, h.symm⟩
      | agg _ => exact .inr ⟨fun z e => (by cases e), h.symm⟩
      | sl _ _ => exact .inr ⟨fun z e => (by cases e), h.symm⟩
      | cl _ _ => exact .inr ⟨fun z e => (by cases e), h.symm⟩
      | rp _ => exact .inr ⟨fun z e => (by cases e), h.symm⟩
    | succ j => exact upB_get (l := l) (ts := ts) (by simpa using hn) (by simpa [upB] using h)
theorem upB_len : ∀ {l : List A1} {ts : List T}, ts.length = l.length → (upB l ts).length = l.length
  | [], ts, h => by simp [upB]
  | a :: l, [], h => by cases h
  | a :: l, t :: ts, h => by simp [upB, upB_len (l := l) (ts := ts) (by simpa using h)]
/-- A call that reads and writes a struct through its pointer. -/
theorem op_call_px {c : Call} {f : Operand} {g d q : Nat} {cs : List A1} {l : List A2} {ts ts' az rs : List T} (ho : o.op = .call c) (hc : c.callee = .value f) (hC : CtxOk P C) (hs : Sim G s a w) (hd : okDst o.dst s.n = true) (hf : a.eval f = .func (.func g) #[] #[]) (has : evs s c.args.toList = some (.c (.bx d q 0) :: l))
    (hb : look s.ob d = some (.box q cs)) (hts : unR cs = some ts) (hsc : scal l = some az) (hsp : C.SpP g ts ts' az rs) (h : ∀ q2, K ((thR (nm o.dst) q2 (s.set d (.box q (upB cs ts'))) rs).2.put o.dst (thR (nm o.dst) q2 (s.set d (.box q (upB cs ts'))) rs).1)) : o.wp P a w (After G K) Q := by
  obtain ⟨hn, hv⟩ := evs_out hs has
  obtain ⟨hsn, hsv⟩ := scal_out hsc
  have hv0 := (hv 0 _ rfl).1
  obtain ⟨hq, ⟨cur, te, hcell, hvl⟩, hS, hlt⟩ := hs.ob d _ hb
  have hy0 : (c.args.toList.map a.eval).getD 0 undef = .pointer (some ⟨G.β d, 0, none⟩) := hv0.2 ⟨cs, hb⟩
  obtain ⟨htn, htv⟩ := unR_out hts hvl hs
  have hsp' := hC.spP _ _ _ _ _ hsp
  have hownb := hs.own d _ hS
  have hZ : ∀ b, G.Z b → b < w.heap.size ∧ ¬ b = G.β d := fun b hz => ⟨by have := hz.1; have := hs.grown; omega, fun e => by
    subst e
    rcases hownb.2 with h1 | h1
    · have := hz.1; omega
    · exact hz.2 h1⟩
  obtain ⟨vs, hvs⟩ : ∃ vs, c.args.toList.map a.eval = Value.pointer (some ⟨G.β d, 0, none⟩) :: vs := by
    cases hm : c.args.toList.map a.eval with
    | nil => have := congrArg List.length hm; simp at this; simp [this] at hn
    | cons y vs => rw [hm] at hy0; exact ⟨vs, by rw [show y = _ from hy0]⟩
  have hvn : vs.length = az.length := by
    have h1 : (c.args.toList.map a.eval).length = vs.length + 1 := by rw [hvs]; rfl
    have h2 : l.length + 1 = c.args.toList.length := hn
    rw [List.length_map] at h1; omega
  unfold Oper.wp
  rw [run_call ho hc hf hsp'.1, hvs]
  show Calls P g _ w _
  refine (hsp'.2 w (G.β d) te cur vs (hs.toR (fun b hb => by subst hb; exact hownb)) hcell ⟨by rw [htn]; exact hvl.1, fun j t ht => (htv j t ht).sup hZ⟩ hvn (fun i t ht => ?_)).mono fun e w' hret => ?_
  · obtain ⟨z, rfl, hz⟩ := hsv i t ht
    have := (hv (i + 1) _ (by simpa using hz)).1
    have e1 : (c.args.toList.map a.eval).getD (i + 1) undef = vs.getD i undef := by rw [hvs]; simp
    rw [e1] at this
    have h1 : vs.getD i undef = z := this.1
    rw [h1]
    exact Rd.v (h1 ▸ this.2)
  · obtain ⟨x, Sx, cur', te', rfl, hout, hSx, hnew, hlen', hlt', hts', hgr, hold⟩ := hret
    have hcl : cs.length = cur.length := hvl.1.symm
    have hs1 : Sim G (s.set d (.box q (upB cs ts'))) a w' := by
      refine hs.rebox2 hb hgr hnew hold ⟨by rw [upB_len (by omega), hlen', hcl], fun j x hx => ?_⟩ (fun x hx => ?_)
      · obtain ⟨a0, t0, ha0, ht0, hx⟩ := upB_get (by omega) hx
        have h1 := hts' j t0 ht0
        rcases hx with ⟨z, rfl, rfl⟩ | ⟨hno, rfl⟩
        · rw [h1.1]; exact ⟨⟨rfl, h1.2⟩, h1.2⟩
        · have h2 : cur'.getD j undef = cur.getD j undef := by
            cases t0 with
            | v z => exact absurd rfl (hno z)
            | agg _ => exact h1
            | sl _ _ => exact h1
            | cl _ _ => exact h1
            | rp _ => exact h1
          rw [h2]; exact hvl.2 j _ ha0
      · obtain ⟨j, hj⟩ := List.getElem?_of_mem hx
        obtain ⟨a0, t0, ha0, ht0, hx⟩ := upB_get (by omega) hj
        rcases hx with ⟨z, rfl, rfl⟩ | ⟨hno, rfl⟩
        · trivial
        · exact hlt _ (List.mem_of_getElem? ha0)
    obtain ⟨G', hk, hs2, hv2, hl2, hn2⟩ := thR_out (q := G.k) (d := nm o.dst) hs1 (Nat.le_refl _) (nm_ge _) hout (fun b hb => by
      have := hSx b hb
      exact ⟨this.2, .inl (by have := hs.grown; omega), fun d hd => by have := (hs.own d b hd).1; omega⟩)
    exact after_of (hs2.put (by rw [hn2]; exact hd) hv2 hl2) hk (h G.k)
theorem newB_out {aas : List A2} {ys : Nat → Value} (hv : ∀ (j : Nat) (c : A2), aas[j]? = some c → V2 G w s.ob c (ys j) ∧ c.lt G.k) : ∀ {cs : List (Value ⊕ Nat)} {l : List A1}, newB aas cs = some l → l.length = cs.length ∧ ∀ (j : Nat) (a : A1) (c : Value ⊕ Nat), l[j]? = some a → cs[j]? = some c → a.lt G.k ∧ (match c with | .inl z => a = .v z ∧ z.oneCell' = true | .inr i => V1 G w s.ob a (ys i) ∧ (ys i).oneCell' = true)
  | [], l, h => by simp [newB] at h; subst h; exact ⟨rfl, fun j a c h => by simp at h⟩
  | .inl z :: r, l, h => by
    unfold newB at h
    split at h
    · rename_i l' hl
      cases hz : z.oneCell' with
      | false => rw [hz] at h; cases h
      | true =>
        rw [hz] at h
        simp only [cond_true, Option.some.injEq] at h
        subst h
        obtain ⟨h1, h2⟩ := newB_out hv hl
        refine ⟨by simp [h1], fun j a c ha hc => ?_⟩
        cases j with
        | zero => simp at ha hc; subst ha; subst hc; exact ⟨trivial, rfl, hz⟩
        | succ j => exact h2 j a c (by simpa using ha) (by simpa using hc)
    · cases h
  | .inr i :: r, l, h => by
    unfold newB at h
    split at h
    · rename_i a0 l' ha0 hl
      cases hz : a0.known with
      | false => rw [hz] at h; cases h
      | true =>
        rw [hz] at h
        simp only [cond_true, Option.some.injEq] at h
        subst h
        obtain ⟨h1, h2⟩ := newB_out hv hl
        have hva := hv i _ ha0
        refine ⟨by simp [h1], fun j a c ha hc => ?_⟩
        cases j with
        | zero => simp at ha hc; subst ha; subst hc; exact ⟨hva.2 _ (by simp [A2.cells]), hva.1, V1.one hva.1 hz⟩
        | succ j => exact h2 j a c (by simpa using ha) (by simpa using hc)
    · cases h
/-- A call that makes a new struct. -/
theorem op_call_nw {c : Call} {f : Operand} {g : Nat} {aas : List A2} (ho : o.op = .call c) (hc : c.callee = .value f) (hC : CtxOk P C) (hs : Sim G s a w) (hd : okDst o.dst s.n = true) (hf : a.eval f = .func (.func g) #[] #[]) (has : evs s c.args.toList = some aas)
    (h : argR s aas fun az => ∃ cs, C.SpN g az cs ∧ (match newB aas cs with
          | some l => ∀ q, K ((s.set (nm o.dst) (.box q l)).put o.dst (.c (.bx (nm o.dst) q 0)))
          | none => False)) : o.wp P a w (After G K) Q := by
  obtain ⟨hn, hv⟩ := evs_out hs has
  obtain ⟨ts, ⟨cs, hsp, h⟩, hn2, hr⟩ := argR_out hs (fun j c hc => (hv j c hc).1) h
  have hn' : aas.length = c.args.size := by simpa using hn
  split at h
  · rename_i l hl
    obtain ⟨hln, hlv⟩ := newB_out hv hl
    have hsp' := hC.spN _ _ _ hsp
    unfold Oper.wp
    rw [run_call ho hc hf hsp'.1]
    show Calls P g _ w _
    refine (hsp'.2 w _ (hs.toR (fun _ h => h.elim)) (by simp; omega) (fun i t ht => ?_)).mono fun e w' hret => ?_
    · have := (hr i t ht).sup (fun b hb => zs_lt hs hb)
      refine this.sup (fun b hb => ⟨hb, fun h => h⟩)
    · obtain ⟨b, te, cur, rfl, hb, hnew, hcn, hcv, hgr, hold⟩ := hret
      have hs' := hs.world hgr hold
      have hblt : b < w'.heap.size := (Array.getElem?_eq_some_iff.1 hnew).1
      have hvl : VL G w s.ob l cur := by
        refine ⟨by omega, fun j x hx => ?_⟩
        have hj : j < cs.length := by rw [← hln]; exact (List.getElem?_eq_some_iff.1 hx).1
        have h1 := hcv j _ (List.getElem?_eq_getElem hj)
        have h2 := (hlv j x _ hx (List.getElem?_eq_getElem hj)).2
        generalize cs[j] = c0 at h1 h2
        cases c0 with
        | inl z => rw [show cur.getD j undef = z from h1]; obtain ⟨rfl, h3⟩ := h2; exact ⟨⟨rfl, h3⟩, h3⟩
        | inr i => rw [show cur.getD j undef = _ from h1]; exact h2
      have hlt : ∀ a ∈ l, a.lt G.k := fun x hx => by
        obtain ⟨j, hj⟩ := List.getElem?_of_mem hx
        have hj' : j < cs.length := by rw [← hln]; exact (List.getElem?_eq_some_iff.1 hj).1
        exact (hlv j x _ hj (List.getElem?_eq_getElem hj')).1
      have hvl' : VL G w' s.ob l cur := VL.ext (ext_same (w' := w') (s' := s) hs rfl rfl rfl (Nat.le_refl _) (fun d x q hx _ _ => ⟨hx, rfl, rfl⟩) (fun d b hb _ => hold b (hs.own d b hb).1)) hlt hvl
      have hsb := hs'.boxAt te (nm o.dst) b hnew (by have := hs.grown; omega) (fun d hd => by have := (hs.own d b hd).1; omega) hvl' hlt
      refine after_of (hsb.put hd (x := .c (.bx (nm o.dst) G.k 0)) ?_ (lt_c (Nat.lt_succ_self G.k))) ⟨rfl, rfl, rfl, fun _ _ => rfl, fun d hd => upd_other _ _ (by have := nm_ge o.dst; omega)⟩ (h G.k)
      refine ⟨rfl, fun _ => ?_⟩
      show _ = Value.pointer (some ⟨upd G.β (nm o.dst) b (nm o.dst), 0, none⟩)
      rw [upd_same]
  · exact h.elim
theorem op_call {c : Call} {f : Operand} (ho : o.op = .call c) (hc : c.callee = .value f) (hC : CtxOk P C) (hs : Sim G s a w) (hd : okDst o.dst s.n = true) (h : aop C (.call c) o.dst s K) : o.wp P a w (After G K) Q := by
  simp only [aop, hc] at h
  split at h
  · rename_i g fi ca aas hg has
    cases he : (fi.isEmpty && ca.isEmpty) with
    | false => rw [he] at h; exact h.elim
    | true =>
      rw [he] at h
      simp only [cond_true] at h
      rw [Bool.and_eq_true] at he
      have h1 : fi = #[] := by simpa using he.1
      have h2 : ca = #[] := by simpa using he.2
      subst h1; subst h2
      have hf := hs.eval f
      rw [hg] at hf
      have hfv : a.eval f = .func (.func g) #[] #[] := hf.1.1
      cases hm : mem C.rw g with
      | false =>
        rw [hm] at h
        simp only [cond_false] at h
        cases hm2 : mem C.mv g with
        | false =>
          rw [hm2] at h
          simp only [cond_false] at h
          cases hm3 : mem C.px g with
          | true =>
            rw [hm3] at h
            simp only [cond_true] at h
            split at h
            · split at h
              · rename_i hlk
                obtain ⟨rfl, h⟩ := h
                split at h
                · rename_i hts hsc
                  obtain ⟨ts', rs, hsp, h⟩ := h
                  exact op_call_px ho hc hC hs hd hfv has hlk hts hsc hsp h
                · exact h.elim
              · exact h.elim
            · exact h.elim
          | false =>
            rw [hm3] at h
            simp only [cond_false] at h
            cases hm4 : mem C.nw g with
            | true => rw [hm4] at h; exact op_call_nw ho hc hC hs hd hfv has h
            | false => rw [hm4] at h; exact op_call_ro ho hc hC hs hd hfv has h
        | true =>
          rw [hm2] at h
          simp only [cond_true] at h
          split at h
          · exact op_call_mv ho hc hC hs hd hfv has h
          · exact h.elim
      | true =>
        rw [hm] at h
        simp only [cond_true] at h
        split at h
        · rename_i b l
          split at h
          · rename_i ts hts
            obtain ⟨rs, h⟩ := h
            exact op_call_rw ho hc hC hs hd hfv has hts h
          · exact h.elim
        · exact h.elim
  · rename_i g x0 aas hg has
    have hf := hs.eval f
    rw [hg] at hf
    exact op_call_cl ho hc hC hs hd hf.1 has h
  · exact h.elim
end
end Go.Proofs.Ytadpancnhinlbaa.E
