/- Slices of slices. -/
import Derived.Test.YtphikogfogejlaaDoorERw
import Derived.Laws.Slices
import Derived.Laws.Strings2
namespace Go.Proofs.YtphikogfogejlaaDoor.E
set_option linter.unusedVariables false
set_option linter.unusedSimpArgs false
section
variable {P : Program} {C : Ctx} {G : Gh} {w : World} {s : St} {a : Act} {o : Oper} {K : St → Prop} {Q : Exit → Act → World → Prop}
theorem bnd_out {x : Option Operand} {n : Nat} {K' : Nat → Prop} (hs : Sim G s a w) (h : bnd s x n K') : ∃ l, K' l ∧ ((x = none ∧ l = n) ∨ ∃ y k, x = some y ∧ a.eval y = .int k (l : Int)) := by
  cases x with
  | none => exact ⟨n, h, .inl ⟨rfl, rfl⟩⟩
  | some y =>
    obtain ⟨k, i, ⟨h0, h⟩, hy⟩ := opi_out hs (h : opi s y fun _ i => 0 ≤ i ∧ K' i.toNat)
    exact ⟨i.toNat, h, .inr ⟨y, k, rfl, by rw [hy]; congr 1; omega⟩⟩
theorem flat_take {es : List T} {e : Nat} (he : ∀ t ∈ es, t.cells.length = e) {l h : Nat} (hl : l ≤ h) (hh : h ≤ es.length) {j : Nat} {ct : T} (hj : (flat ((es.take h).drop l))[j]? = some ct) : (flat es)[l * e + j]? = some ct ∧ j < (h - l) * e := by
  have h1 : flat es = flat (es.take l) ++ (flat ((es.take h).drop l) ++ flat (es.drop h)) := by
    have : es = es.take l ++ ((es.take h).drop l ++ es.drop h) := by
      have h2 : es.take l = (es.take h).take l := by rw [List.take_take, Nat.min_eq_left hl]
      rw [← List.append_assoc, h2, List.take_append_drop, List.take_append_drop]
    conv => lhs; rw [this]
    simp [flat]
  have hlen : (flat (es.take l)).length = l * e := by rw [flat_len (fun t ht => he t (List.mem_of_mem_take ht)), List.length_take, Nat.min_eq_left (by omega)]
  have hlen2 : (flat ((es.take h).drop l)).length = (h - l) * e := by rw [flat_len (fun t ht => he t (List.mem_of_mem_take (List.mem_of_mem_drop ht))), List.length_drop, List.length_take, Nat.min_eq_left hh]
  have hlt : j < (flat ((es.take h).drop l)).length := (List.getElem?_eq_some_iff.1 hj).1
  refine ⟨?_, by omega⟩
  rw [h1, List.getElem?_append_right (by omega), hlen, Nat.add_sub_cancel_left, List.getElem?_append_left hlt]
  exact hj
theorem op_slice {t : Nat} {x : Operand} {lo hi : Option Operand} (ho : o.op = .slice t x lo hi none) (hC : CtxOk P C) (hs : Sim G s a w) (hd : okDst o.dst s.n = true) (h : aop C (.slice t x lo hi none) o.dst s K) : o.wp P a w (After G K) Q := by
  simp only [aop] at h
  split at h
  · rename_i i1 i2 i3 i4 i5 e hi'
    split at h
    · rename_i ie hie
      cases h1 : Nat.ble 1 ie.sz with
      | false => rw [h1] at h; exact h.elim
      | true =>
      rw [h1] at h
      simp only [cond_true] at h
      replace h := opr_out hs h
      obtain ⟨c, h, hv, hlt⟩ := h
      have hu := tt_elem (hC.tt _ _ hi')
      have hel : P.elem t = e := by simp [Program.elem, hu]
      have hu' : P.underlying t = some (.slice (P.elem t)) := by rw [hel]; exact hu
      have hsz := run_sizeOf (hC.tt _ _ hie) w
      have hrun : ∀ {A : Option Addr} {len cap l h : Nat}, a.eval x = .slice A len cap → ((lo = none ∧ l = 0) ∨ ∃ y k, lo = some y ∧ a.eval y = .int k (l : Int)) → ((hi = none ∧ h = len) ∨ ∃ y k, hi = some y ∧ a.eval y = .int k (h : Int)) → l ≤ h → h ≤ len → len ≤ cap →
          (execOp a.eval o).run P w = .ok (.value (sliced A l h cap ie.sz)) w := by
        intro A len cap n m hx hl hm hnm hml hlc
        rw [← hel] at hsz
        have key : (Instr.slice t (.slice A len cap) (lo.map a.eval) (hi.map a.eval) none).run P w = .ok (sliced A n m cap ie.sz) w := by
          rcases hl with ⟨e1, e2⟩ | ⟨y, k, e1, hy⟩
          · rcases hm with ⟨e3, e4⟩ | ⟨y2, k2, e3, hy2⟩
            · rw [e1, e3, e2, e4]
              show (Instr.slice t (.slice A len cap) none none none).run P w = _
              rw [run_slice_all (w := w) (ht := hu'), hsz]; rfl
            · rw [e1, e3, e2]
              show (Instr.slice t (.slice A len cap) none (some (a.eval y2)) none).run P w = _
              rw [hy2, run_slice_h (w := w) (ht := hu') (kh := k2) (h0 := by omega) (h2 := by omega), hsz]; rfl
          · rcases hm with ⟨e3, e4⟩ | ⟨y2, k2, e3, hy2⟩
            · rw [e1, e3, e4]
              show (Instr.slice t (.slice A len cap) (some (a.eval y)) none none).run P w = _
              rw [hy, run_slice_l (w := w) (ht := hu') (kl := k) (h0 := by omega) (h1 := by omega), hsz]; rfl
            · rw [e1, e3]
              show (Instr.slice t (.slice A len cap) (some (a.eval y)) (some (a.eval y2)) none).run P w = _
              rw [hy, hy2, run_slice_lh (w := w) (ht := hu') (kl := k) (kh := k2) (h0 := by omega) (h1 := by omega) (h2 := by omega), hsz]; rfl
        simp only [execOp, ho, hx, Option.map_none, Sem.run_bind, run_sliceAt_slice (w := w) (h := hu'), key, Result.andThen_ok, Sem.run_pure]
      split at h
      · obtain ⟨l, h, hl⟩ := bnd_out hs h
        obtain ⟨h', ⟨hlh, hh0, h⟩, hh⟩ := bnd_out hs h
        have hr := hrun hv.1 hl hh hlh (by omega) (Nat.le_refl _)
        refine wp_val hr (after_val hs hd (x := .c (.v (.slice none 0 0))) ?_ (lt_c trivial) h)
        have : l = 0 := by omega
        subst this
        have : h' = 0 := by omega
        subst this
        exact ⟨rfl, rfl⟩
      · rename_i e' es
        cases hbe : Nat.beq e' ie.sz with
        | false => rw [hbe] at h; exact h.elim
        | true =>
        rw [hbe] at h
        have he : e' = ie.sz := Nat.eq_of_beq_eq_true hbe
        subst he
        simp only [cond_true] at h
        obtain ⟨l, h, hl⟩ := bnd_out hs h
        obtain ⟨h', ⟨hlh, hh0, h⟩, hh⟩ := bnd_out hs h
        have hv1 : Rd G.w0 G.Z (.sl ie.sz es) (a.eval x) := hv
        generalize hz : a.eval x = z at hv1
        cases hv1 with
        | @nil _ A c =>
          have hr := hrun hz hl hh hlh hh0 (Nat.zero_le _)
          have : l = 0 := by simp at hh0; omega
          subst this
          have : h' = 0 := by simp at hh0; omega
          subst this
          refine wp_val hr (after_val hs hd (x := .c (.ro ie.sz [])) (Rd.nil) (lt_c trivial) (by simpa using h))
        | @row _ ad _ cap u g1 g2 g3 g4 g5 =>
          have hr := hrun hz hl hh hlh hh0 g1
          refine wp_val hr (after_val hs hd (x := .c (.ro ie.sz ((es.take h').drop l))) ?_ (lt_c trivial) h)
          have hlen : ((es.take h').drop l).length = h' - l := by rw [List.length_drop, List.length_take, Nat.min_eq_left hh0]
          show Rd G.w0 G.Z (.sl ie.sz ((es.take h').drop l)) (sliced (some ad) l h' cap ie.sz)
          unfold sliced
          by_cases hcl : cap = l
          · have : (es.take h').drop l = [] := List.eq_nil_of_length_eq_zero (by omega)
            rw [this, show h' - l = 0 by omega]
            exact .nil
          · rw [if_neg hcl, ← hlen]
            refine .row (u := fun j => u (l * ie.sz + j)) (by omega) (by rw [add_block]; exact g2) (fun t ht => g3 t (List.mem_of_mem_take (List.mem_of_mem_drop ht))) (fun j ct hj => ?_) (fun j ct hj => ?_)
            · rw [add_add]; exact g4 _ ct (flat_take g3 hlh hh0 hj).1
            · exact g5 _ ct (flat_take g3 hlh hh0 hj).1
      · rename_i d q
        split at h
        · rename_i q' sv e' es hr0
          cases hbe : Nat.beq e' ie.sz with
          | false => rw [hbe] at h; exact h.elim
          | true =>
          rw [hbe] at h
          have he : e' = ie.sz := Nat.eq_of_beq_eq_true hbe
          subst he
          obtain ⟨rfl, h⟩ := h
          obtain ⟨l, h, hl⟩ := bnd_out hs h
          obtain ⟨h', ⟨hlh, hh0, h⟩, hh⟩ := bnd_out hs h
          have hyv := hv.2 ⟨sv, _, es, hr0⟩
          have how := (hs.ob d _ hr0).2
          have hg := hs.gone d
          have hown : ∀ b, G.S d b → b < w.heap.size ∧ (G.w0.heap.size ≤ b ∨ G.R b) := hs.own d
          have hnot : ∀ b, G.S d b → ∀ d', ¬ upd G.S d (fun _ => False) d' b := fun b hb d' hb' => by
            by_cases hdd : d' = d
            · subst hdd; rw [upd_same] at hb'; exact hb'
            · rw [upd_other _ _ hdd] at hb'; exact hdd (hs.apart d' d b hb' hb)
          have hlen : ((es.take h').drop l).length = h' - l := by rw [List.length_drop, List.length_take, Nat.min_eq_left hh0]
          generalize hz : G.y d = z at how
          have fin : ∀ {y : Value}, (execOp a.eval o).run P w = .ok (.value y) w → Ow w (.sl ie.sz ((es.take h').drop l)) y (G.S d) → o.wp P a w (After G K) Q := fun hr how2 =>
            after_row hs hg hd hr (Up.refl _) (fun _ _ _ => rfl) (fun _ _ _ _ => rfl) how2 (fun b hb => ⟨(hown b hb).1, (hown b hb).2, fun d' _ => hnot b hb d'⟩) h
          cases how with
          | @nil _ A =>
            have hr := hrun (hyv.trans hz) hl hh hlh hh0 (Nat.zero_le _)
            have : l = 0 := by simp at hh0; omega
            subst this
            have : h' = 0 := by simp at hh0; omega
            subst this
            refine fin hr ?_
            exact Ow.nil
          | @row _ g o' cap cur te _ Ss _ g1 g2 g3 g4 g5 g6 g7 g8 g9 =>
            have hr := hrun (hyv.trans hz) hl hh hlh hh0 g2
            refine fin hr ?_
            unfold sliced
            by_cases hcl : cap = l
            · have : (es.take h').drop l = [] := List.eq_nil_of_length_eq_zero (by omega)
              rw [this, show h' - l = 0 by omega, show cap - l = 0 by omega]
              exact .nil
            · rw [if_neg hcl, ← hlen]
              have hcl2 : l ≤ cap := by omega
              have hmul : l * ie.sz + (cap - l) * ie.sz = cap * ie.sz := by rw [← Nat.add_mul]; congr 1; omega
              show Ow w _ (.slice (some ((⟨g, o', none⟩ : Addr).add (l * ie.sz))) _ _) _
              rw [add_mk]
              refine .row (Ss := fun j => Ss (l * ie.sz + j)) g1 (by omega) (by omega) (fun t ht => g4 t (List.mem_of_mem_take (List.mem_of_mem_drop ht))) (fun j ct hj => ?_) g6 (fun j => g7 _) (fun j b hb => g8 _ b hb) (fun i j b hi hj => by have := g9 _ _ b hi hj; omega)
              have := g5 _ ct (flat_take g4 hlh hh0 hj).1
              rwa [← Nat.add_assoc] at this
        · exact h.elim
      · exact h.elim
    · exact h.elim
  · rename_i i1 i2 i3 i4 i5 hi'
    have hu : P.underlying t = some .string := tt_str hC (by rw [hi']; rfl)
    replace h := opr_out hs h
    obtain ⟨c, h, hv, -⟩ := h
    split at h
    · rename_i b
      obtain ⟨l, h, hl⟩ := bnd_out hs h
      obtain ⟨m, ⟨hlm, hmb, h⟩, hm⟩ := bnd_out hs h
      have key : (Instr.slice t (.string b) (lo.map a.eval) (hi.map a.eval) none).run P w = .ok (.string (b.extract l m)) w := by
        rcases hl with ⟨e1, e2⟩ | ⟨y, k, e1, hy⟩
        · rcases hm with ⟨e3, e4⟩ | ⟨y2, k2, e3, hy2⟩
          · rw [e1, e3, e2, e4]
            show (Instr.slice t (.string b) none none none).run P w = _
            exact run_slice_string_all w t b hu
          · rw [e1, e3, e2]
            show (Instr.slice t (.string b) none (some (a.eval y2)) none).run P w = _
            rw [hy2, run_slice_string_h (w := w) (ht := hu) (kh := k2) (h0 := by omega) (h2 := by omega)]; rfl
        · rcases hm with ⟨e3, e4⟩ | ⟨y2, k2, e3, hy2⟩
          · rw [e1, e3, e4]
            show (Instr.slice t (.string b) (some (a.eval y)) none none).run P w = _
            rw [hy, run_slice_string_l (w := w) (ht := hu) (kl := k) (h0 := by omega) (h1 := by omega)]; rfl
          · rw [e1, e3]
            show (Instr.slice t (.string b) (some (a.eval y)) (some (a.eval y2)) none).run P w = _
            rw [hy, hy2, run_slice_string (w := w) (h := hu) (k := k) (k' := k2) (h0 := by omega) (h1 := by omega) (h2 := by omega)]; rfl
      refine wp_val (y := .string (b.extract l m)) (w' := w) ?_ (after_val hs hd (x := .vv (.string (b.extract l m))) ⟨rfl, rfl⟩ (lt_c trivial) h)
      simp only [execOp, ho, hv.1, Option.map_none, Sem.run_bind, run_sliceAt_string (h := hu), key, Result.andThen_ok, Sem.run_pure]
    · exact h.elim
  · exact h.elim
end
end Go.Proofs.YtphikogfogejlaaDoor.E
