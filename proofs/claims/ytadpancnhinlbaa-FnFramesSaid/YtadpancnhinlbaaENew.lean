/- New things, and things written, in a state of the abstract weakest precondition. -/
import Derived.Test.YtadpancnhinlbaaESem
namespace Go.Proofs.Ytadpancnhinlbaa.E
set_option linter.unusedVariables false
set_option linter.unusedSimpArgs false
section
variable {G G' : Gh} {w w' : World} {s s' : St} {a : Act}

/-- A new variable. -/
theorem Sim.box (hs : Sim G s a w) {l : List A1} {vs : List Value} (te n : Nat) (hv : VL G w s.ob l vs) (hl : ∀ a ∈ l, a.lt G.k) :
    Sim { G with k := G.k + 1, β := upd G.β n w.heap.size, S := upd G.S n (fun b => b = w.heap.size) } (s.set n (.box G.k l)) a (w.alloc (.cells vs.toArray te (0, 0))) := by
  have hold : ∀ b, b < w.heap.size → (w.alloc (.cells vs.toArray te (0, 0))).heap[b]? = w.heap[b]? := fun b hb => heap_alloc_old w _ b hb
  have E : Ext G w s.ob { G with k := G.k + 1, β := upd G.β n w.heap.size, S := upd G.S n (fun b => b = w.heap.size) } (w.alloc (.cells vs.toArray te (0, 0))) (s.set n (.box G.k l)).ob := by
    refine ext_same hs rfl rfl rfl (Nat.le_succ _) (fun e x q hx hv' hq => ?_) (fun e b hb _ => hold b (hs.own e b hb).1)
    rw [set_ob] at hx
    split at hx
    · cases hx; simp only [Ob.ver, Option.some.injEq] at hv'; omega
    · rename_i hne; exact ⟨hx, upd_other _ _ (fun h => hne h.symm), rfl⟩
  have hsz : (w.alloc (.cells vs.toArray te (0, 0))).heap.size = w.heap.size + 1 := by simp
  refine hs.turn rfl (fun _ => rfl) E (up_alloc _ _) (fun b hb _ => hold b (Nat.lt_of_lt_of_le hb hs.grown)) (fun e x hx => ?_) (fun e b hb => ?_) (fun e e' b hb hb' => ?_)
  · rw [set_ob] at hx
    split at hx
    · rename_i hne; subst hne; cases hx
      refine ⟨Nat.lt_succ_self _, ⟨vs, te, ?_, VL.ext E hl hv⟩, ?_, fun a ha => A1.lt_mono (Nat.le_succ _) (hl a ha)⟩
      · show (w.alloc _).heap[upd G.β n w.heap.size n]? = _
        rw [upd_same]; exact heap_alloc_new w _
      · show upd G.S n _ n (upd G.β n w.heap.size n)
        rw [upd_same, upd_same]
    · rename_i hne
      refine (hs.ob e x hx).ext E (upd_other _ _ (fun h => hne h.symm)) rfl (fun b => ?_) (fun b hb => hold b (hs.own e b hb).1)
      show _ ↔ upd G.S n _ e b; rw [upd_other _ _ (fun h => hne h.symm)]
  · have hb' : upd G.S n (fun b => b = w.heap.size) e b := hb
    by_cases he : e = n
    · rw [he, upd_same] at hb'; subst hb'; exact ⟨by omega, .inl hs.grown⟩
    · rw [upd_other _ _ he] at hb'; have := hs.own e b hb'; exact ⟨by omega, this.2⟩
  · have hb1 : upd G.S n (fun b => b = w.heap.size) e b := hb
    have hb2 : upd G.S n (fun b => b = w.heap.size) e' b := hb'
    by_cases he : e = n <;> by_cases he' : e' = n
    · rw [he, he']
    · rw [he, upd_same] at hb1; rw [upd_other _ _ he'] at hb2; have := (hs.own e' b hb2).1; omega
    · rw [he', upd_same] at hb2; rw [upd_other _ _ he] at hb1; have := (hs.own e b hb1).1; omega
    · rw [upd_other _ _ he] at hb1; rw [upd_other _ _ he'] at hb2; exact hs.apart e e' b hb1 hb2

/-- A variable that somebody else has made. -/
theorem Sim.boxAt (hs : Sim G s a w) {l : List A1} {vs : List Value} (te n b : Nat) (hb : w.heap[b]? = some (.cells vs.toArray te (0, 0))) (hb0 : G.w0.heap.size ≤ b) (hno : ∀ d, ¬ G.S d b) (hv : VL G w s.ob l vs) (hl : ∀ a ∈ l, a.lt G.k) :
    Sim { G with k := G.k + 1, β := upd G.β n b, S := upd G.S n (fun x => x = b) } (s.set n (.box G.k l)) a w := by
  have hblt : b < w.heap.size := (Array.getElem?_eq_some_iff.1 hb).1
  have E : Ext G w s.ob { G with k := G.k + 1, β := upd G.β n b, S := upd G.S n (fun x => x = b) } w (s.set n (.box G.k l)).ob := by
    refine ext_same hs rfl rfl rfl (Nat.le_succ _) (fun e x q hx hv' hq => ?_) (fun e b hb _ => rfl)
    rw [set_ob] at hx
    split at hx
    · cases hx; simp only [Ob.ver, Option.some.injEq] at hv'; omega
    · rename_i hne; exact ⟨hx, upd_other _ _ (fun h => hne h.symm), rfl⟩
  refine hs.turn rfl (fun _ => rfl) E (Up.refl _) (fun b hb _ => rfl) (fun e x hx => ?_) (fun e k hk => ?_) (fun e e' k hk hk' => ?_)
  · rw [set_ob] at hx
    split at hx
    · rename_i hne; subst hne; cases hx
      refine ⟨Nat.lt_succ_self _, ⟨vs, te, ?_, VL.ext E hl hv⟩, ?_, fun a ha => A1.lt_mono (Nat.le_succ _) (hl a ha)⟩
      · show w.heap[upd G.β n b n]? = _
        rw [upd_same]; exact hb
      · show upd G.S n _ n (upd G.β n b n)
        rw [upd_same, upd_same]
    · rename_i hne
      refine (hs.ob e x hx).ext E (upd_other _ _ (fun h => hne h.symm)) rfl (fun b => ?_) (fun b hb => rfl)
      show _ ↔ upd G.S n _ e b; rw [upd_other _ _ (fun h => hne h.symm)]
  · have hb' : upd G.S n (fun x => x = b) e k := hk
    by_cases he : e = n
    · rw [he, upd_same] at hb'; subst hb'; exact ⟨hblt, .inl hb0⟩
    · rw [upd_other _ _ he] at hb'; exact hs.own e k hb'
  · have hb1 : upd G.S n (fun x => x = b) e k := hk
    have hb2 : upd G.S n (fun x => x = b) e' k := hk'
    by_cases he : e = n <;> by_cases he' : e' = n
    · rw [he, he']
    · rw [he, upd_same] at hb1; rw [upd_other _ _ he'] at hb2; subst hb1; exact absurd hb2 (hno e')
    · rw [he', upd_same] at hb2; rw [upd_other _ _ he] at hb1; subst hb2; exact absurd hb1 (hno e)
    · rw [upd_other _ _ he] at hb1; rw [upd_other _ _ he'] at hb2; exact hs.apart e e' k hb1 hb2

/-- A new row, or one that comes out of a call: its blocks are nobody else's. -/
theorem Sim.row' (hs : Sim G s a w) (n sv q0 : Nat) (hq0 : G.k ≤ q0) {e : Nat} {es : List T} {y : Value} {Sn : Nat → Prop} (hg : Up w w') (hold : ∀ b, b < G.w0.heap.size → ¬ G.R b → w'.heap[b]? = w.heap[b]?)
    (hkeep : ∀ d b, d ≠ n → G.S d b → w'.heap[b]? = w.heap[b]?) (ho : Ow w' (.sl e es) y Sn) (hS : ∀ b, Sn b → b < w'.heap.size ∧ (G.w0.heap.size ≤ b ∨ G.R b) ∧ ∀ d, d ≠ n → ¬ G.S d b) (hsv : sv < q0 + 1) :
    Sim { G with k := q0 + 1, y := upd G.y n y, S := upd G.S n Sn } (s.set n (.row q0 sv e es)) a w' := by
  have hq1 := hq0
  have hgs := hg.size
  have E : Ext G w s.ob { G with k := q0 + 1, y := upd G.y n y, S := upd G.S n Sn } w' (s.set n (.row q0 sv e es)).ob := by
    refine ext_same hs rfl rfl rfl (Nat.le_succ_of_le hq0) (fun e x q hx hv' hq => ?_) (fun e b hb hx => ?_)
    · rw [set_ob] at hx
      split at hx
      · cases hx; simp only [Ob.ver, Option.some.injEq] at hv'; omega
      · rename_i hne; exact ⟨hx, rfl, upd_other _ _ (fun h => hne h.symm)⟩
    · refine hkeep e b (fun he => ?_) hb
      obtain ⟨x, q, hx, hv, hq⟩ := hx
      rw [set_ob, if_pos he.symm] at hx
      cases hx; simp only [Ob.ver, Option.some.injEq] at hv; omega
  refine hs.turn rfl (fun _ => rfl) E hg hold (fun e x hx => ?_) (fun e b hb => ?_) (fun e e' b hb hb' => ?_)
  · rw [set_ob] at hx
    split at hx
    · rename_i hne; subst hne; cases hx
      refine ⟨⟨Nat.lt_succ_self _, hsv⟩, ?_⟩
      show Ow w' _ (upd G.y n y n) (upd G.S n Sn n)
      rw [upd_same, upd_same]; exact ho
    · rename_i hne
      have hne' : e ≠ n := fun h => hne h.symm
      refine (hs.ob e x hx).ext E rfl (upd_other _ _ hne') (fun b => ?_) (fun b hb => hkeep e b hne' hb)
      show _ ↔ upd G.S n _ e b; rw [upd_other _ _ hne']
  · have hb' : upd G.S n Sn e b := hb
    by_cases he : e = n
    · rw [he, upd_same] at hb'; exact ⟨(hS b hb').1, (hS b hb').2.1⟩
    · rw [upd_other _ _ he] at hb'; have := hs.own e b hb'; exact ⟨by omega, this.2⟩
  · have hb1 : upd G.S n Sn e b := hb
    have hb2 : upd G.S n Sn e' b := hb'
    by_cases he : e = n <;> by_cases he' : e' = n
    · rw [he, he']
    · rw [he, upd_same] at hb1; rw [upd_other _ _ he'] at hb2; exact absurd hb2 ((hS b hb1).2.2 e' he')
    · rw [he', upd_same] at hb2; rw [upd_other _ _ he] at hb1; exact absurd hb1 ((hS b hb2).2.2 e he)
    · rw [upd_other _ _ he] at hb1; rw [upd_other _ _ he'] at hb2; exact hs.apart e e' b hb1 hb2

theorem Sim.row (hs : Sim G s a w) (n sv : Nat) {e : Nat} {es : List T} {y : Value} {Sn : Nat → Prop} (hg : Up w w') (hold : ∀ b, b < G.w0.heap.size → ¬ G.R b → w'.heap[b]? = w.heap[b]?)
    (hkeep : ∀ d b, d ≠ n → G.S d b → w'.heap[b]? = w.heap[b]?) (ho : Ow w' (.sl e es) y Sn) (hS : ∀ b, Sn b → b < w'.heap.size ∧ (G.w0.heap.size ≤ b ∨ G.R b) ∧ ∀ d, d ≠ n → ¬ G.S d b) (hsv : sv < G.k + 1) :
    Sim { G with k := G.k + 1, y := upd G.y n y, S := upd G.S n Sn } (s.set n (.row G.k sv e es)) a w' := hs.row' n sv G.k (Nat.le_refl _) hg hold hkeep ho hS hsv

/-- Rows are written: the same rows, other elements. Old looks into their elements are void. -/
theorem Sim.wroteD (hs : Sim G s a w) (D : Nat → Prop) [DecidablePred D] {Sn : Nat → Nat → Prop} (hn : s'.n = s.n) (htm : s'.tm = s.tm) (hg : Up w w') (hold : ∀ b, b < G.w0.heap.size → ¬ G.R b → w'.heap[b]? = w.heap[b]?)
    (hkeep : ∀ d b, ¬ D d → G.S d b → w'.heap[b]? = w.heap[b]?) (hsame : ∀ d, ¬ D d → look s'.ob d = look s.ob d)
    (hnew : ∀ d, D d → ∃ q sv e es es', look s.ob d = some (.row q sv e es) ∧ look s'.ob d = some (.row q G.k e es') ∧ Ow w' (.sl e es') (G.y d) (Sn d))
    (hS : ∀ d b, D d → Sn d b → b < w'.heap.size ∧ (G.w0.heap.size ≤ b ∨ G.R b) ∧ (∀ d', ¬ D d' → ¬ G.S d' b) ∧ ∀ d', D d' → Sn d' b → d = d') :
    Sim { G with k := G.k + 1, S := fun d => if D d then Sn d else G.S d } s' a w' := by
  have hgs := hg.size
  have E : Ext G w s.ob { G with k := G.k + 1, S := fun d => if D d then Sn d else G.S d } w' s'.ob := by
    refine ⟨rfl, rfl, rfl, Nat.le_succ _, fun d q1 _ hl => ?_, fun d q1 e1 _ hl => ?_, fun d q1 sv1 j hq hsv hl => ?_⟩
    · obtain ⟨l, hl⟩ := hl
      by_cases hd : D d
      · obtain ⟨q, sv, e, es, es', h1, h2, _⟩ := hnew d hd
        rw [h2] at hl; cases hl
      · rw [hsame d hd] at hl; exact ⟨⟨l, hl⟩, rfl⟩
    · obtain ⟨sv1, es1, hl⟩ := hl
      by_cases hd : D d
      · obtain ⟨q, sv, e, es, es', h1, h2, _⟩ := hnew d hd
        rw [h2] at hl; cases hl; exact ⟨⟨sv, es, h1⟩, rfl⟩
      · rw [hsame d hd] at hl; exact ⟨⟨sv1, es1, hl⟩, rfl⟩
    · obtain ⟨e1, es1, hl, hj⟩ := hl
      by_cases hd : D d
      · obtain ⟨q, sv, e, es, es', h1, h2, _⟩ := hnew d hd
        rw [h2] at hl; cases hl; omega
      · rw [hsame d hd] at hl
        refine ⟨⟨e1, es1, hl, hj⟩, fun g o m c hy => ?_⟩
        have ho := (hs.ob d _ hl).2
        rw [hy] at ho
        have hg : G.S d g := by
          cases ho with
          | nil => simp [flat] at hj
          | row _ _ _ _ _ h6 => exact h6
        exact World.cell?_of_block (hkeep d g hd hg)
  refine hs.turn hn (fun d => by simp [St.get, htm]) E hg hold (fun f x hx => ?_) (fun f b hb => ?_) (fun f f' b hb hb' => ?_)
  · by_cases hf : D f
    · obtain ⟨q, sv, e, es, es', h1, h2, h3⟩ := hnew f hf
      rw [h2] at hx; cases hx
      refine ⟨⟨Nat.lt_succ_of_lt (hs.ob f _ h1).1.1, Nat.lt_succ_self _⟩, ?_⟩
      show Ow w' _ (G.y f) ((fun d => if D d then Sn d else G.S d) f)
      simp only [hf, if_true]; exact h3
    · rw [hsame f hf] at hx
      refine (hs.ob f x hx).ext E rfl rfl (fun b => ?_) (fun b hb => hkeep f b hf hb)
      show _ ↔ (fun d => if D d then Sn d else G.S d) f b
      simp only [hf, if_false]
  · have hb' : (fun d => if D d then Sn d else G.S d) f b := hb
    by_cases hf : D f
    · simp only [hf, if_true] at hb'; obtain ⟨h1, h2, _⟩ := hS f b hf hb'; exact ⟨h1, h2⟩
    · simp only [hf, if_false] at hb'; have := hs.own f b hb'; exact ⟨by omega, this.2⟩
  · have hb1 : (fun d => if D d then Sn d else G.S d) f b := hb
    have hb2 : (fun d => if D d then Sn d else G.S d) f' b := hb'
    by_cases hf : D f <;> by_cases hf' : D f' <;> simp only [hf, hf', if_true, if_false] at hb1 hb2
    · exact (hS f b hf hb1).2.2.2 f' hf' hb2
    · exact absurd hb2 ((hS f b hf hb1).2.2.1 f' hf')
    · exact absurd hb1 ((hS f' b hf' hb2).2.2.1 f hf)
    · exact hs.apart f f' b hb1 hb2
/-- A row is written: the same row, other elements. Old looks into its elements are void. -/
theorem Sim.wrote (hs : Sim G s a w) {n q sv e : Nat} {es es' : List T} {Sn : Nat → Prop} (hr : look s.ob n = some (.row q sv e es)) (hg : Up w w') (hold : ∀ b, b < G.w0.heap.size → ¬ G.R b → w'.heap[b]? = w.heap[b]?)
    (hkeep : ∀ d b, d ≠ n → G.S d b → w'.heap[b]? = w.heap[b]?) (ho : Ow w' (.sl e es') (G.y n) Sn) (hS : ∀ b, Sn b → b < w'.heap.size ∧ (G.w0.heap.size ≤ b ∨ G.R b) ∧ ∀ d, d ≠ n → ¬ G.S d b) :
    Sim { G with k := G.k + 1, S := upd G.S n Sn } (s.set n (.row q G.k e es')) a w' := by
  have hgs := hg.size
  have hgone : ∀ d x, d ≠ n → look (s.set n (.row q G.k e es')).ob d = some x → look s.ob d = some x := fun d x hd hx => by rwa [set_ob, if_neg (fun h => hd h.symm)] at hx
  have hat : look (s.set n (.row q G.k e es')).ob n = some (.row q G.k e es') := by rw [set_ob, if_pos rfl]
  have E : Ext G w s.ob { G with k := G.k + 1, S := upd G.S n Sn } w' (s.set n (.row q G.k e es')).ob := by
    refine ⟨rfl, rfl, rfl, Nat.le_succ _, fun d q1 _ hl => ?_, fun d q1 e1 _ hl => ?_, fun d q1 sv1 j hq hsv hl => ?_⟩
    · obtain ⟨l, hl⟩ := hl
      by_cases hd : d = n
      · subst hd; rw [hat] at hl; cases hl
      · exact ⟨⟨l, hgone d _ hd hl⟩, rfl⟩
    · obtain ⟨sv1, es1, hl⟩ := hl
      by_cases hd : d = n
      · subst hd; rw [hat] at hl; cases hl; exact ⟨⟨sv, es, hr⟩, rfl⟩
      · exact ⟨⟨sv1, es1, hgone d _ hd hl⟩, rfl⟩
    · obtain ⟨e1, es1, hl, hj⟩ := hl
      by_cases hd : d = n
      · subst hd; rw [hat] at hl; cases hl; omega
      · have h1 := hgone d _ hd hl
        refine ⟨⟨e1, es1, h1, hj⟩, fun g o m c hy => ?_⟩
        have ho := (hs.ob d _ h1).2
        rw [hy] at ho
        have hg : G.S d g := by
          cases ho with
          | nil => simp [flat] at hj
          | row _ _ _ _ _ h6 => exact h6
        exact World.cell?_of_block (hkeep d g hd hg)
  refine hs.turn rfl (fun _ => rfl) E hg hold (fun e x hx => ?_) (fun e b hb => ?_) (fun e e' b hb hb' => ?_)
  · by_cases he : e = n
    · subst he; rw [hat] at hx; cases hx
      refine ⟨⟨Nat.lt_succ_of_lt (hs.ob e _ hr).1.1, Nat.lt_succ_self _⟩, ?_⟩
      show Ow w' _ (G.y e) (upd G.S e Sn e)
      rw [upd_same]; exact ho
    · refine (hs.ob e x (hgone e x he hx)).ext E rfl rfl (fun b => ?_) (fun b hb => hkeep e b he hb)
      show _ ↔ upd G.S n _ e b; rw [upd_other _ _ he]
  · have hb' : upd G.S n Sn e b := hb
    by_cases he : e = n
    · rw [he, upd_same] at hb'; exact ⟨(hS b hb').1, (hS b hb').2.1⟩
    · rw [upd_other _ _ he] at hb'; have := hs.own e b hb'; exact ⟨by omega, this.2⟩
  · have hb1 : upd G.S n Sn e b := hb
    have hb2 : upd G.S n Sn e' b := hb'
    by_cases he : e = n <;> by_cases he' : e' = n
    · rw [he, he']
    · rw [he, upd_same] at hb1; rw [upd_other _ _ he'] at hb2; exact absurd hb2 ((hS b hb1).2.2 e' he')
    · rw [he', upd_same] at hb2; rw [upd_other _ _ he] at hb1; exact absurd hb1 ((hS b hb2).2.2 e he)
    · rw [upd_other _ _ he] at hb1; rw [upd_other _ _ he'] at hb2; exact hs.apart e e' b hb1 hb2

theorem setL_len {α : Type} : ∀ (l : List α) (i : Nat) (r : List α), (setL l i r).length = l.length
  | l, _, [] => by cases l <;> rfl
  | [], _, _ :: _ => by simp [setL]
  | _ :: l, 0, _ :: r => by simp [setL, setL_len l 0 r]
  | _ :: l, i + 1, y :: r => by simp [setL, setL_len l i (y :: r)]
theorem setL_get {α : Type} : ∀ (l : List α) (i : Nat) (r : List α) (j : Nat), i + r.length ≤ l.length → (setL l i r)[j]? = if i ≤ j ∧ j < i + r.length then r[j - i]? else l[j]?
  | l, _, [], j, _ => by rw [if_neg (fun h => by have := h.2; simp only [List.length_nil] at this; omega)]; cases l <;> rfl
  | [], _, _ :: _, _, h => by simp at h
  | x :: l, 0, y :: r, 0, _ => by simp [setL]
  | x :: l, 0, y :: r, j + 1, h => by
    simp only [setL, List.getElem?_cons_succ]
    rw [setL_get l 0 r j (by simp at h ⊢; omega)]
    simp
  | x :: l, i + 1, y :: r, 0, _ => by simp [setL]
  | x :: l, i + 1, y :: r, j + 1, h => by
    simp only [setL, List.getElem?_cons_succ]
    rw [setL_get l i (y :: r) j (by simp at h ⊢; omega)]
    have : (i + 1 ≤ j + 1 ∧ j + 1 < i + 1 + (y :: r).length) ↔ (i ≤ j ∧ j < i + (y :: r).length) := by omega
    simp only [this, show j + 1 - (i + 1) = j - i by omega]
/-- The cells of a block behind stores into it. -/
theorem cells_setCells (b : Nat) (te : Nat) : ∀ (vs : List Value) (o : Nat) (w : World) (cur : List Value), w.heap[b]? = some (.cells cur.toArray te (0, 0)) → o + vs.length ≤ cur.length → (w.setCells b o vs).heap[b]? = some (.cells (setL cur o vs).toArray te (0, 0))
  | [], _, _, _, h, _ => by simpa [World.setCells, setL] using h
  | v :: r, o, w, cur, h, hl => by
    simp only [World.setCells]
    have hl' : o < cur.length := by simp at hl; omega
    have h1 : (w.setCell ⟨b, o, none⟩ v).heap[b]? = some (.cells (cur.set o v).toArray te (0, 0)) := by
      simp [World.setCell, Array.getElem?_modify, h]
    rw [cells_setCells b te r (o + 1) _ _ h1 (by simp at hl ⊢; omega)]
    congr 2
    have : setL (cur.set o v) (o + 1) r = setL cur o (v :: r) := by
      apply List.ext_getElem?
      intro j
      rw [setL_get _ _ _ _ (by simp at hl ⊢; omega), setL_get _ _ _ _ hl]
      by_cases h1 : o + 1 ≤ j ∧ j < o + 1 + r.length
      · rw [if_pos h1, if_pos (by simp; omega)]
        obtain ⟨k, rfl⟩ : ∃ k, j = o + 1 + k := ⟨j - (o + 1), by omega⟩
        simp [show o + 1 + k - (o + 1) = k by omega, show o + 1 + k - o = k + 1 by omega]
      · rw [if_neg h1]
        by_cases h2 : j = o
        · subst h2
          rw [if_pos (by simp)]
          simp [hl']
        · rw [if_neg (by simp; omega)]
          simp [List.getElem?_set]; omega
    rw [this]
theorem other_setCells (b : Nat) : ∀ (vs : List Value) (o : Nat) (w : World) (k : Nat), k ≠ b → (w.setCells b o vs).heap[k]? = w.heap[k]?
  | [], _, _, _, _ => rfl
  | v :: r, o, w, k, h => by
    simp only [World.setCells]
    rw [other_setCells b r (o + 1) _ k h]
    simp only [World.setCell, Array.getElem?_modify]
    rw [if_neg (by simpa using fun e => h e.symm)]
theorem size_setCells (b : Nat) : ∀ (vs : List Value) (o : Nat) (w : World), (w.setCells b o vs).heap.size = w.heap.size
  | [], _, _ => rfl
  | v :: r, o, w => by simp only [World.setCells]; rw [size_setCells b r (o + 1)]; simp [World.setCell]

/-- A variable is written. -/
theorem Sim.store (hs : Sim G s a w) {n q off : Nat} {l xs : List A1} {vs : List Value} (hr : look s.ob n = some (.box q l)) (hv : VL G w s.ob xs vs) (hl : ∀ a ∈ xs, a.lt G.k) (hn : off + xs.length ≤ l.length) :
    Sim G (s.set n (.box q (setL l off xs))) a (w.setCells (G.β n) off vs) := by
  obtain ⟨hq, ⟨cur, te, hc, hcur⟩, hS, hlt⟩ := hs.ob n _ hr
  have hgone : ∀ d x, d ≠ n → look (s.set n (.box q (setL l off xs))).ob d = some x → look s.ob d = some x := fun d x hd hx => by rwa [set_ob, if_neg (fun h => hd h.symm)] at hx
  have hat : look (s.set n (.box q (setL l off xs))).ob n = some (.box q (setL l off xs)) := by rw [set_ob, if_pos rfl]
  have hnot : ∀ d b, d ≠ n → G.S d b → b ≠ G.β n := fun d b hd hb he => hd (hs.apart d n b hb (by rw [he]; exact hS))
  have E : Ext G w s.ob G (w.setCells (G.β n) off vs) (s.set n (.box q (setL l off xs))).ob := by
    refine ⟨rfl, rfl, rfl, Nat.le_refl _, fun d q1 _ hl => ?_, fun d q1 e1 _ hl => ?_, fun d q1 sv1 j hq hsv hl => ?_⟩
    · obtain ⟨l1, hl⟩ := hl
      by_cases hd : d = n
      · subst hd; rw [hat] at hl; cases hl; exact ⟨⟨l, hr⟩, rfl⟩
      · exact ⟨⟨l1, hgone d _ hd hl⟩, rfl⟩
    · obtain ⟨sv1, es1, hl⟩ := hl
      by_cases hd : d = n
      · subst hd; rw [hat] at hl; cases hl
      · exact ⟨⟨sv1, es1, hgone d _ hd hl⟩, rfl⟩
    · obtain ⟨e1, es1, hl, hj⟩ := hl
      by_cases hd : d = n
      · subst hd; rw [hat] at hl; cases hl
      · have h1 := hgone d _ hd hl
        refine ⟨⟨e1, es1, h1, hj⟩, fun g o m c hy => ?_⟩
        have ho := (hs.ob d _ h1).2
        rw [hy] at ho
        have hg : G.S d g := by
          cases ho with
          | nil => simp [flat] at hj
          | row _ _ _ _ _ h6 => exact h6
        exact World.cell?_of_block (other_setCells _ _ _ _ _ (hnot d g hd hg))
  have hnew := cells_setCells (G.β n) te vs off w cur hc (by rw [hv.1, hcur.1]; exact hn)
  refine hs.turn rfl (fun _ => rfl) E (up_setCells _ _ _ _) (fun b hb hR => other_setCells _ _ _ _ _ (fun he => ?_)) (fun e x hx => ?_) (fun e b hb => by rw [size_setCells]; exact hs.own e b hb) hs.apart
  · have := hs.own n _ hS
    subst he
    rcases this.2 with h | h
    · omega
    · exact hR h
  · by_cases he : e = n
    · subst he; rw [hat] at hx; cases hx
      refine ⟨hq, ⟨setL cur off vs, te, hnew, by rw [setL_len, setL_len]; exact hcur.1, fun j x hx => ?_⟩, hS, fun x hx => ?_⟩
      · rw [setL_get _ _ _ _ hn] at hx
        simp only [List.getD_eq_getElem?_getD]
        rw [setL_get _ _ _ _ (by rw [hv.1, hcur.1]; exact hn), hv.1]
        split at hx
        · rename_i hj
          rw [if_pos hj]
          have := hv.2 (j - off) x hx
          rw [List.getD_eq_getElem?_getD] at this
          exact ⟨V1.ext E (hl x (List.mem_of_getElem? hx)) this.1, this.2⟩
        · rename_i hj
          rw [if_neg hj]
          have := hcur.2 j x hx
          rw [List.getD_eq_getElem?_getD] at this
          exact ⟨V1.ext E (hlt x (List.mem_of_getElem? hx)) this.1, this.2⟩
      · obtain ⟨j, hj⟩ := List.getElem?_of_mem hx
        rw [setL_get _ _ _ _ hn] at hj
        split at hj
        · exact hl x (List.mem_of_getElem? hj)
        · exact hlt x (List.mem_of_getElem? hj)
    · exact (hs.ob e x (hgone e x he hx)).ext E rfl rfl (fun b => Iff.rfl) (fun b hb => other_setCells _ _ _ _ _ (hnot e b he hb))
/-- A variable's block is as it was left by somebody else. -/
theorem Sim.rebox2 (hs : Sim G s a w) {n q te' : Nat} {l l' : List A1} {vs : List Value} (hr : look s.ob n = some (.box q l)) (hg : Up w w') (hnew : w'.heap[G.β n]? = some (.cells vs.toArray te' (0, 0))) (hother : ∀ b, b < w.heap.size → b ≠ G.β n → w'.heap[b]? = w.heap[b]?)
    (hv : VL G w s.ob l' vs) (hl : ∀ a ∈ l', a.lt G.k) : Sim G (s.set n (.box q l')) a w' := by
  obtain ⟨hq, ⟨cur, te, hc, hcur⟩, hS, hlt⟩ := hs.ob n _ hr
  have hgone : ∀ d x, d ≠ n → look (s.set n (.box q l')).ob d = some x → look s.ob d = some x := fun d x hd hx => by rwa [set_ob, if_neg (fun h => hd h.symm)] at hx
  have hat : look (s.set n (.box q l')).ob n = some (.box q l') := by rw [set_ob, if_pos rfl]
  have hnot : ∀ d b, d ≠ n → G.S d b → b ≠ G.β n := fun d b hd hb he => hd (hs.apart d n b hb (by rw [he]; exact hS))
  have hkeep : ∀ d b, d ≠ n → G.S d b → w'.heap[b]? = w.heap[b]? := fun d b hd hb => hother b (hs.own d b hb).1 (hnot d b hd hb)
  have hgs := hg.size
  have E : Ext G w s.ob G w' (s.set n (.box q l')).ob := by
    refine ⟨rfl, rfl, rfl, Nat.le_refl _, fun d q1 _ hl => ?_, fun d q1 e1 _ hl => ?_, fun d q1 sv1 j hq hsv hl => ?_⟩
    · obtain ⟨l1, hl⟩ := hl
      by_cases hd : d = n
      · subst hd; rw [hat] at hl; cases hl; exact ⟨⟨l, hr⟩, rfl⟩
      · exact ⟨⟨l1, hgone d _ hd hl⟩, rfl⟩
    · obtain ⟨sv1, es1, hl⟩ := hl
      by_cases hd : d = n
      · subst hd; rw [hat] at hl; cases hl
      · exact ⟨⟨sv1, es1, hgone d _ hd hl⟩, rfl⟩
    · obtain ⟨e1, es1, hl, hj⟩ := hl
      by_cases hd : d = n
      · subst hd; rw [hat] at hl; cases hl
      · have h1 := hgone d _ hd hl
        refine ⟨⟨e1, es1, h1, hj⟩, fun g o m c hy => ?_⟩
        have ho := (hs.ob d _ h1).2
        rw [hy] at ho
        have hg : G.S d g := by
          cases ho with
          | nil => simp [flat] at hj
          | row _ _ _ _ _ h6 => exact h6
        exact World.cell?_of_block (hkeep d g hd hg)
  refine hs.turn rfl (fun _ => rfl) E hg (fun b hb hR => hother b (by have := hs.grown; omega) (fun he => ?_)) (fun e x hx => ?_) (fun e b hb => by have := hs.own e b hb; exact ⟨by omega, this.2⟩) hs.apart
  · have := hs.own n _ hS
    subst he
    rcases this.2 with h | h
    · omega
    · exact hR h
  · by_cases he : e = n
    · subst he; rw [hat] at hx; cases hx
      exact ⟨hq, ⟨vs, te', hnew, VL.ext E hl hv⟩, hS, hl⟩
    · exact (hs.ob e x (hgone e x he hx)).ext E rfl rfl (fun b => Iff.rfl) (fun b hb => hkeep e b he hb)
end
end Go.Proofs.Ytadpancnhinlbaa.E
