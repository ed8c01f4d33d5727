/- Lists of operations, code, whole functions. -/
import Derived.Test.YtadpancnhinlbaaEDraw
namespace Go.Proofs.Ytadpancnhinlbaa.E
set_option linter.unusedVariables false
set_option linter.unusedSimpArgs false
section
variable {P : Program} {C : Ctx} {G : Gh} {w : World} {s : St} {a : Act} {K : St → Prop}

theorem Sim.learn (hs : Sim G s a w) {d : Nat} {x : AV} (hv : V G w s.ob x (a.tmps.getD d undef)) (hl : x.lt G.k) : Sim G (s.put (some d) x) a w where
  size := hs.size
  defers := hs.defers
  tm e := by
    rw [put_get, put_ob]
    split
    · rename_i h; subst h; exact ⟨hv, hl⟩
    · exact hs.tm e
  up := hs.up
  old := hs.old
  Rlt := hs.Rlt
  ob := hs.ob
  own := hs.own
  apart := hs.apart
theorem aops_sound {Q : Exit → Act → World → Prop} (hC : CtxOk P C) {ops : Array Oper} : ∀ {rest : List Oper} {G : Gh} {s : St} {a : Act} {w : World}, Sim G s a w → aops C ops.toList rest s K → (∀ a' w', After G K a' w' → Q .normal a' w') → wpList P ops Q rest a w
  | [], G, s, a, w, hs, h, hQ => hQ a w ⟨G, s, Keep.refl G, h, hs⟩
  | o :: rest, G, s, a, w, hs, h, hQ => by
    rw [aops_cons] at h
    cases hd : okDst o.dst s.n with
    | false => rw [hd] at h; exact h.elim
    | true =>
      rw [hd] at h
      simp only [cond_true] at h
      have run : ∀ {s1 : St}, Sim G s1 a w → s1.n = s.n → aop C o.op o.dst s1 (fun s' => aops C ops.toList rest s' K) → o.wp P a w (wpList P ops Q rest) Q := fun hs1 hn h1 =>
        Oper.wp_mono (fun a' w' h' => by
          obtain ⟨G', s', hk, hk', hs'⟩ := h'
          exact aops_sound hC hs' hk' (fun a2 w2 h2 => hQ a2 w2 (h2.up hk))) (aop_sound hC hs1 (by rw [hn]; exact hd) h1)
      have skip : ∀ {s1 : St}, Sim G s1 a w → s1.n = s.n → aops C ops.toList rest (s1.put o.dst (.tup [])) K → wpList P ops Q rest (a.put o.dst undef) w := fun hs1 hn h1 =>
        aops_sound hC (hs1.put (by rw [hn]; exact hd) (x := .tup []) ⟨[], rfl, rfl, fun j a h => by simp at h⟩ (fun a h => by cases h)) h1 hQ
      split at h
      · rename_i hg
        unfold wpList
        rw [if_pos (by simp [Region.wanted, hg])]
        exact .inl (run hs rfl h)
      · rename_i j want hg
        split at h
        · rename_i t ht
          split at h
          · rename_i b hb
            have ht1 := hs.tm t
            rw [hb] at ht1
            have hv : a.tmps.getD t undef = .bool b := ht1.1.1
            have hget : a.tmps[t]? = some (.bool b) := by
              rw [Array.getD_eq_getD_getElem?] at hv
              cases h2 : a.tmps[t]? with
              | none => rw [h2] at hv; simp [undef] at hv
              | some x => rw [h2] at hv; simp at hv; rw [hv]
            have hy : yielded ops a.tmps j = some b := by
              unfold yielded
              have : (ops[j]?).bind (·.dst) = some t := by rw [← Array.getElem?_toList]; exact ht
              rw [this]
              simp [hget]
            have hw : Region.wanted o (yielded ops a.tmps) = (b == want) := by
              unfold Region.wanted
              rw [hg]
              simp only [hy]
              cases b <;> cases want <;> rfl
            have learn : ∀ {c : Bool}, c = b → Sim G (s.put (some t) (.bool c)) a w := fun hc => hs.learn (by rw [hv, hc]; exact ⟨rfl, rfl⟩) (lt_c trivial)
            unfold wpList
            rw [hw]
            cases b with
            | true =>
              have h1 := h.1 rfl
              cases want with
              | true => exact .inl (run (learn rfl) rfl h1)
              | false => exact skip (learn rfl) rfl h1
            | false =>
              have h1 := h.2 rfl
              cases want with
              | true => exact skip (learn rfl) rfl h1
              | false => exact .inl (run (learn rfl) rfl h1)
          · rename_i hb
            have ht1 := hs.tm t
            rw [hb] at ht1
            have hv : a.tmps.getD t undef = undef := by
              obtain ⟨vs, h1, h2, _⟩ := ht1.1
              rw [h1, List.eq_nil_of_length_eq_zero h2]; rfl
            have hy : yielded ops a.tmps j = none := by
              unfold yielded
              have : (ops[j]?).bind (·.dst) = some t := by rw [← Array.getElem?_toList]; exact ht
              rw [this]
              rw [Array.getD_eq_getD_getElem?] at hv
              cases h2 : a.tmps[t]? with
              | none => simp [h2]
              | some x => rw [h2] at hv; simp at hv; simp [h2, hv, undef]
            unfold wpList
            rw [show Region.wanted o (yielded ops a.tmps) = false by unfold Region.wanted; rw [hg]; simp only [hy]; rfl]
            exact skip hs rfl h
          · exact h.elim
        · exact h.elim

theorem least {p : Nat → Prop} (h : ∃ n, p n) : ∃ m, p m ∧ ∀ k, p k → m ≤ k := by
  obtain ⟨n, hn⟩ := h
  induction n using Nat.strongRecOn with
  | _ n ih =>
    by_cases hm : ∃ m, m < n ∧ p m
    · obtain ⟨m, hlt, hm⟩ := hm
      exact ih m hlt hm
    · exact ⟨n, hn, fun k hk => by
        rcases Nat.lt_or_ge k n with h | h
        · exact absurd ⟨k, h, hk⟩ hm
        · exact h⟩
def Ex.to : Ex → Exit
  | .normal => .normal
  | .exit i => .exit i
  | .ret => .ret
theorem weaker_sim {s' : St} (hs : Sim G s a w) (h : weaker s s') : Sim G s' a w := by
  obtain ⟨hn, htm, hob'⟩ := h
  have E : Ext G w s.ob G w s'.ob := ext_same hs rfl rfl rfl (Nat.le_refl _) (fun d x q hx _ _ => ⟨hob' d x hx, rfl, rfl⟩) (fun _ _ _ _ => rfl)
  refine { size := by rw [hn]; exact hs.size, defers := hs.defers, tm := fun d => ?_, up := hs.up, old := hs.old, Rlt := hs.Rlt, ob := fun d x hx => (hs.ob d x (hob' d x hx)).ext E rfl rfl (fun _ => Iff.rfl) (fun _ _ => rfl), own := hs.own, apart := hs.apart }
  rcases htm d with h1 | h1
  · rw [h1]; exact ⟨V.ext E (hs.tm d).2 (hs.tm d).1, (hs.tm d).2⟩
  · rw [h1]; exact ⟨trivial, lt_c trivial⟩

theorem entry_sim {J : St → Prop} (h : Entry J s) : ∀ {G : Gh}, Sim G s a w → ∃ G' s', Keep G G' ∧ J s' ∧ Sim G' s' a w := by
  induction h with
  | here hp hw => intro G hs; exact ⟨G, _, Keep.refl G, hp, weaker_sim hs hw⟩
  | @tmp s t n e ht hn _ ih =>
    intro G hs
    have hn' : 1000 ≤ n := Nat.le_of_ble_eq_true hn
    have h1 := hs.row n 0 (w' := w) (e := e) (es := []) (y := .slice none 0 0) (Sn := fun _ => False) (Up.refl _) (fun _ _ _ => rfl) (fun _ _ _ _ => rfl) .nil (fun _ h => h.elim) (Nat.succ_pos _)
    have hv := (hs.tm t).1
    rw [ht] at hv
    obtain ⟨G', s', hk, hp, hs'⟩ := ih G.k (h1.retm (t := t) (x := .c (.own n G.k)) (by rw [show a.tmps.getD t undef = _ from hv.1]; exact own_new (w := w) (upd_same _ _ _) rfl) (lt_c (Nat.lt_succ_self G.k)))
    exact ⟨G', s', ⟨hk.w0, hk.R, hk.fx, fun d hd => (hk.y d hd).trans (upd_other _ _ (by omega)), fun d hd => hk.β d hd⟩, hp, hs'⟩
  | @box s d n off e q l hr hl hn hne _ ih =>
    intro G hs
    have hn' : 1000 ≤ n := Nat.le_of_ble_eq_true hn
    have hne' : n ≠ d := fun h => by subst h; rw [Nat.beq_refl] at hne; cases hne
    have h1 := hs.row n 0 (w' := w) (e := e) (es := []) (y := .slice none 0 0) (Sn := fun _ => False) (Up.refl _) (fun _ _ _ => rfl) (fun _ _ _ _ => rfl) .nil (fun _ h => h.elim) (Nat.succ_pos _)
    have hr1 : look (s.set n (.row G.k 0 e [])).ob d = some (.box q l) := by rw [set_ob, if_neg hne']; exact hr
    have hoff : off < l.length := (List.getElem?_eq_some_iff.1 hl).1
    have h2 := h1.rebox (l' := l.set off (.own n G.k)) hr1 (fun vs hv => ⟨by simpa using hv.1, fun j x hx => by
      by_cases hj : off = j
      · subst hj
        rw [List.getElem?_set_self hoff] at hx
        cases hx
        have := hv.2 off _ hl
        refine ⟨own_new (w := w) ((upd_same _ _ _).trans this.1.1.symm) this.2, this.2⟩
      · rw [List.getElem?_set_ne hj] at hx
        exact hv.2 j x hx⟩) (fun x hx => by
        rcases List.mem_or_eq_of_mem_set hx with h | h
        · exact (h1.ob d _ hr1).2.2.2 x h
        · subst h; exact Nat.lt_succ_self G.k)
    obtain ⟨G', s', hk, hp, hs'⟩ := ih G.k h2
    exact ⟨G', s', ⟨hk.w0, hk.R, hk.fx, fun d hd => (hk.y d hd).trans (upd_other _ _ (by omega)), fun d hd => hk.β d hd⟩, hp, hs'⟩

/-- What holds behind code. -/
def Post (G : Gh) (Q0 : Ex → St → Prop) (Qc : Exit → Act → World → Prop) : Prop := ∀ e s' G' a' w', Keep G G' → Q0 e s' → Sim G' s' a' w' → Qc e.to a' w'
theorem awp_sound (hm : P.follows .mixedOrders = true) (hC : CtxOk P C) : ∀ (c : Code) {G : Gh} {s : St} {a : Act} {w : World} {Q0 : Ex → St → Prop} {Qc : Exit → Act → World → Prop}, Sim G s a w → awp C c s Q0 → Post G Q0 Qc → c.wp P Qc a w := by
  intro c
  induction c with
  | skip => intro G s a w Q0 Qc hs h hQ; exact wp_skip (hQ .normal s G a w (Keep.refl G) h hs)
  | region id ops draw =>
    intro G s a w Q0 Qc hs h hQ
    cases draw with
    | false => exact wp_region_list (aops_sound hC hs h (fun a' w' ⟨G', s', hk, hk', hs'⟩ => hQ .normal s' G' a' w' hk hk' hs'))
    | true =>
      rw [awp_draw] at h
      · obtain ⟨hsel, st, hok, h⟩ := h
        rcases h with h | ⟨M, h, hM⟩
        · exact draw_sound hm hC hsel hok hs h (fun a' w' ⟨G', s', hk, hk', hs'⟩ => hQ .normal s' G' a' w' hk hk' hs')
        · exact draw_sound hm hC hsel hok hs h (fun a' w' ⟨G', s', hk, ⟨m, hm1, hm2⟩, hs'⟩ => hQ .normal m G' a' w' hk (hM m hm1) (weaker_sim hs' hm2))
  | seq x y ihx ihy =>
    intro G s a w Q0 Qc hs h hQ
    refine wp_seq (ihx hs h fun e s' G' a' w' hk hq hs' => ?_)
    cases e with
    | normal => exact ihy hs' hq (fun e2 s2 G2 a2 w2 hk2 hq2 hs2 => hQ e2 s2 G2 a2 w2 (hk.trans hk2) hq2 hs2)
    | exit i => exact hQ (.exit i) s' G' a' w' hk hq hs'
    | ret => exact hQ .ret s' G' a' w' hk hq hs'
  | cond c x y ihx ihy =>
    intro G s a w Q0 Qc hs h hQ
    have hc := hs.eval c
    rw [awp_cond] at h
    split at h
    · rename_i b hb
      rw [hb] at hc
      refine wp_cond hc.1.1 ?_
      cases b with
      | true => exact ihx hs (h.1 rfl) hQ
      | false => exact ihy hs (h.2 rfl) hQ
    · exact h.elim
  | block id body ih =>
    intro G s a w Q0 Qc hs h hQ
    refine wp_block (ih hs h fun e s' G' a' w' hk hq hs' => ?_)
    cases e with
    | normal => exact hQ .normal s' G' a' w' hk hq hs'
    | exit i =>
      simp only at hq
      cases hi : Nat.beq i id with
      | true =>
        rw [hi] at hq
        have : i = id := Nat.eq_of_beq_eq_true hi
        subst this
        show (if i = i then _ else _)
        rw [if_pos rfl]
        exact hQ .normal s' G' a' w' hk hq hs'
      | false =>
        rw [hi] at hq
        show (if i = id then _ else _)
        rw [if_neg (fun h => by subst h; rw [Nat.beq_refl] at hi; cases hi)]
        exact hQ (.exit i) s' G' a' w' hk hq hs'
    | ret => exact hQ .ret s' G' a' w' hk hq hs'
  | loop body ih =>
    intro G s a w Q0 Qc hs h hQ
    obtain ⟨J, hE, hround⟩ := h
    obtain ⟨G0, s0, hk0, ⟨n0, hJ0⟩, hs0⟩ := entry_sim hE hs
    let I : Nat → Act → World → Prop := fun n a w => ∃ s' G', Keep G G' ∧ J n s' ∧ Sim G' s' a w
    let μ : Act → World → Nat := fun a w => open Classical in if h : ∃ n, I n a w then Classical.choose (least h) else 0
    refine wp_loop (fun a w => ∃ n, I n a w) μ ⟨n0, s0, G0, hk0, hJ0, hs0⟩ (fun a1 w1 h1 => ?_)
    have hμ : I (μ a1 w1) a1 w1 := by
      show I (open Classical in if h : ∃ n, I n a1 w1 then Classical.choose (least h) else 0) a1 w1
      rw [dif_pos h1]; exact (Classical.choose_spec (least h1)).1
    obtain ⟨s1, G1, hk1, hJ1, hs1⟩ := hμ
    refine ih hs1 (hround _ s1 hJ1) fun e s' G' a' w' hk hq hs' => ?_
    cases e with
    | normal =>
      obtain ⟨m, s2, hm, hJ2, hw2⟩ := hq
      have hI : I m a' w' := ⟨s2, G', hk1.trans hk, hJ2, weaker_sim hs' hw2⟩
      refine ⟨⟨m, hI⟩, ?_⟩
      have : μ a' w' ≤ m := by
        show (open Classical in if h : ∃ n, I n a' w' then Classical.choose (least h) else 0) ≤ m
        rw [dif_pos ⟨m, hI⟩]; exact (Classical.choose_spec (least ⟨m, hI⟩)).2 m hI
      omega
    | exit i => exact hQ (.exit i) s' G' a' w' (hk1.trans hk) hq hs'
    | ret => exact hQ .ret s' G' a' w' (hk1.trans hk) hq hs'
  | exit id => intro G s a w Q0 Qc hs h hQ; exact wp_exit (hQ (.exit id) s G a w (Keep.refl G) h hs)
  | ret => intro G s a w Q0 Qc hs h hQ; exact wp_ret (hQ .ret s G a w (Keep.refl G) h hs)
  | _ => intro G s a w Q0 Qc hs h hQ; exact h.elim
end
end Go.Proofs.Ytadpancnhinlbaa.E
