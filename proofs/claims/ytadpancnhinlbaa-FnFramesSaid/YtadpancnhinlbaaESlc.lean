/- Slices of slices. -/
import Derived.Test.YtadpancnhinlbaaERw
import Derived.Laws.Slices
import Derived.Laws.Strings2
namespace Go.Proofs.Ytadpancnhinlbaa.E
set_option linter.unusedVariables false
set_option linter.unusedSimpArgs false
section
variable {P : Program} {C : Ctx} {G : Gh} {w : World} {s : St} {a : Act} {o : Oper} {K : St → Prop} {Q : Exit → Act → World → Prop}
theorem bnd_out {x : Option Operand} {n : Nat} {K' : Nat → Prop} (hs : Sim G s a w) (h : bnd s x n K') : ∃ l, K' l ∧ ((x = none ∧ l = n) ∨ ∃ y k, x = some y ∧ a.eval y = .int k (l : Int)) := by
  cases x with
  | none => exact ⟨n, h, .inl ⟨rfl, rfl⟩⟩
  | some y =>
    obtain ⟨k, i, ⟨h0, h⟩, hy⟩ := opi_out hs (h : opi s y fun _ i => 0 ≤ i ∧ K' i.toNat)
    exact ⟨i.toNat, h, .inr ⟨y, k, rfl, by rw [hy]; congr 1; omega⟩⟩
theorem op_slice {t : Nat} {x : Operand} {lo hi : Option Operand} (ho : o.op = .slice t x lo hi none) (hC : CtxOk P C) (hs : Sim G s a w) (hd : okDst o.dst s.n = true) (h : aop C (.slice t x lo hi none) o.dst s K) : o.wp P a w (After G K) Q := by
  simp only [aop] at h
  split at h
  · rename_i i1 i2 i3 i4 i5 e hi'
    split at h
    · rename_i ie hie
      cases h1 : Nat.ble 1 ie.sz with
      | false => rw [h1] at h; exact h.elim
      | true =>
      rw [h1] at h
      simp only [cond_true] at h
      replace h := opr_out hs h
      obtain ⟨c, h, hv, hlt⟩ := h
      have hu := tt_elem (hC.tt _ _ hi')
      have hel : P.elem t = e := by simp [Program.elem, hu]
      have hu' : P.underlying t = some (.slice (P.elem t)) := by rw [hel]; exact hu
      have hsz := run_sizeOf (hC.tt _ _ hie) w
      have hrun : ∀ {A : Option Addr} {len cap l h : Nat}, a.eval x = .slice A len cap → ((lo = none ∧ l = 0) ∨ ∃ y k, lo = some y ∧ a.eval y = .int k (l : Int)) → ((hi = none ∧ h = len) ∨ ∃ y k, hi = some y ∧ a.eval y = .int k (h : Int)) → l ≤ h → h ≤ len → len ≤ cap →
          (execOp a.eval o).run P w = .ok (.value (sliced A l h cap ie.sz)) w := by
        intro A len cap n m hx hl hm hnm hml hlc
        rw [← hel] at hsz
        have key : (Instr.slice t (.slice A len cap) (lo.map a.eval) (hi.map a.eval) none).run P w = .ok (sliced A n m cap ie.sz) w := by
          rcases hl with ⟨e1, e2⟩ | ⟨y, k, e1, hy⟩
          · rcases hm with ⟨e3, e4⟩ | ⟨y2, k2, e3, hy2⟩
            · rw [e1, e3, e2, e4]
              show (Instr.slice t (.slice A len cap) none none none).run P w = _
              rw [run_slice_all (w := w) (ht := hu'), hsz]; rfl
            · rw [e1, e3, e2]
              show (Instr.slice t (.slice A len cap) none (some (a.eval y2)) none).run P w = _
              rw [hy2, run_slice_h (w := w) (ht := hu') (kh := k2) (h0 := by omega) (h2 := by omega), hsz]; rfl
          · rcases hm with ⟨e3, e4⟩ | ⟨y2, k2, e3, hy2⟩
            · rw [e1, e3, e4]
              show (Instr.slice t (.slice A len cap) (some (a.eval y)) none none).run P w = _
              rw [hy, run_slice_l (w := w) (ht := hu') (kl := k) (h0 := by omega) (h1 := by omega), hsz]; rfl
            · rw [e1, e3]
              show (Instr.slice t (.slice A len cap) (some (a.eval y)) (some (a.eval y2)) none).run P w = _
              rw [hy, hy2, run_slice_lh (w := w) (ht := hu') (kl := k) (kh := k2) (h0 := by omega) (h1 := by omega) (h2 := by omega), hsz]; rfl
        simp only [execOp, ho, hx, Option.map_none, Sem.run_bind, run_sliceAt_slice (w := w) (h := hu'), key, Result.andThen_ok, Sem.run_pure]
      split at h
      · obtain ⟨l, h, hl⟩ := bnd_out hs h
        obtain ⟨h', ⟨hlh, hh0, h⟩, hh⟩ := bnd_out hs h
        have hr := hrun hv.1 hl hh hlh (by omega) (Nat.le_refl _)
        refine wp_val hr (after_val hs hd (x := .c (.v (.slice none 0 0))) ?_ (lt_c trivial) h)
        have : l = 0 := by omega
        subst this
        have : h' = 0 := by omega
        subst this
        exact ⟨rfl, rfl⟩
      · rename_i e' es
        cases hbe : Nat.beq e' ie.sz with
        | false => rw [hbe] at h; exact h.elim
        | true =>
        rw [hbe] at h
        have he : e' = ie.sz := Nat.eq_of_beq_eq_true hbe
        subst he
        simp only [cond_true] at h
        obtain ⟨l, h, hl⟩ := bnd_out hs h
        obtain ⟨h', ⟨hlh, hh0, h⟩, hh⟩ := bnd_out hs h
        have hv1 : Rd G.w0 G.Z (.sl ie.sz es) (a.eval x) := hv
        generalize hz : a.eval x = z at hv1
        cases hv1 with
        | @nil _ A c =>
          have hr := hrun hz hl hh hlh hh0 (Nat.zero_le _)
          have : l = 0 := by simp at hh0; omega
          subst this
          have : h' = 0 := by simp at hh0; omega
          subst this
          refine wp_val hr (after_val hs hd (x := .c (.ro ie.sz [])) (Rd.nil) (lt_c trivial) (by simpa using h))
        | @row _ ad _ cap u g1 g2 g3 g4 g5 =>
          have hr := hrun hz hl hh hlh hh0 g1
          refine wp_val hr (after_val hs hd (x := .c (.ro ie.sz ((es.take h').drop l))) ?_ (lt_c trivial) h)
          have hlen : ((es.take h').drop l).length = h' - l := by rw [List.length_drop, List.length_take, Nat.min_eq_left hh0]
          show Rd G.w0 G.Z (.sl ie.sz ((es.take h').drop l)) (sliced (some ad) l h' cap ie.sz)
          unfold sliced
          by_cases hcl : cap = l
          · have : (es.take h').drop l = [] := List.eq_nil_of_length_eq_zero (by omega)
            rw [this, show h' - l = 0 by omega]
            exact .nil
          · rw [if_neg hcl, ← hlen]
            refine .row (u := fun j => u (l * ie.sz + j)) (by omega) (by rw [add_block]; exact g2) (fun t ht => g3 t (List.mem_of_mem_take (List.mem_of_mem_drop ht))) (fun j ct hj => ?_) (fun j ct hj => ?_)
            · rw [add_add]; exact g4 _ ct (flat_take g3 hlh hh0 hj).1
            · exact g5 _ ct (flat_take g3 hlh hh0 hj).1
      · rename_i d q
        split at h
        · rename_i q' sv e' es hr0
          cases hbe : Nat.beq e' ie.sz with
          | false => rw [hbe] at h; exact h.elim
          | true =>
          rw [hbe] at h
          have he : e' = ie.sz := Nat.eq_of_beq_eq_true hbe
          subst he
          obtain ⟨rfl, h⟩ := h
          obtain ⟨l, h, hl⟩ := bnd_out hs h
          obtain ⟨h', ⟨hlh, hh0, h⟩, hh⟩ := bnd_out hs h
          have hyv := hv.2 ⟨sv, _, es, hr0⟩
          have how := (hs.ob d _ hr0).2
          cases hkp : memO C.kp s.n o.dst with
          | true =>
            rw [hkp] at h
            simp only [cond_true] at h
            obtain ⟨A, cp, hA⟩ := how.sl_val
            have hle : es.length ≤ cp := by
              rw [hA] at how
              cases how with
              | nil => exact Nat.zero_le _
              | row _ h2 => exact h2
            have hr := hrun (hyv.trans hA) hl hh hlh hh0 hle
            refine wp_val hr (after_val hs hd (x := .c (.vw d q' ie.sz l h')) ⟨rfl, fun _ => ⟨A, _, cp, hA, rfl, hlh, hh0⟩⟩ (lt_c hlt) h)
          | false =>
          rw [hkp] at h
          simp only [cond_false] at h
          have hg := hs.gone d
          have hown : ∀ b, G.S d b → b < w.heap.size ∧ (G.w0.heap.size ≤ b ∨ G.R b) := hs.own d
          have hnot : ∀ b, G.S d b → ∀ d', ¬ upd G.S d (fun _ => False) d' b := fun b hb d' hb' => by
            by_cases hdd : d' = d
            · subst hdd; rw [upd_same] at hb'; exact hb'
            · rw [upd_other _ _ hdd] at hb'; exact hdd (hs.apart d' d b hb' hb)
          have hlen : ((es.take h').drop l).length = h' - l := by rw [List.length_drop, List.length_take, Nat.min_eq_left hh0]
          generalize hz : G.y d = z at how
          have fin : ∀ {y : Value}, (execOp a.eval o).run P w = .ok (.value y) w → Ow w (.sl ie.sz ((es.take h').drop l)) y (G.S d) → o.wp P a w (After G K) Q := fun hr how2 =>
            after_row hs hg hd hr (Up.refl _) (fun _ _ _ => rfl) (fun _ _ _ _ => rfl) how2 (fun b hb => ⟨(hown b hb).1, (hown b hb).2, fun d' _ => hnot b hb d'⟩) h
          cases how with
          | @nil _ A =>
            have hr := hrun (hyv.trans hz) hl hh hlh hh0 (Nat.zero_le _)
            have : l = 0 := by simp at hh0; omega
            subst this
            have : h' = 0 := by simp at hh0; omega
            subst this
            refine fin hr ?_
            exact Ow.nil
          | @row _ g o' cap cur te _ Ss _ g1 g2 g3 g4 g5 g6 g7 g8 g9 =>
            have hr := hrun (hyv.trans hz) hl hh hlh hh0 g2
            refine fin hr ?_
            unfold sliced
            by_cases hcl : cap = l
            · have : (es.take h').drop l = [] := List.eq_nil_of_length_eq_zero (by omega)
              rw [this, show h' - l = 0 by omega, show cap - l = 0 by omega]
              exact .nil
            · rw [if_neg hcl, ← hlen]
              have hcl2 : l ≤ cap := by omega
              have hmul : l * ie.sz + (cap - l) * ie.sz = cap * ie.sz := by rw [← Nat.add_mul]; congr 1; omega
              show Ow w _ (.slice (some ((⟨g, o', none⟩ : Addr).add (l * ie.sz))) _ _) _
              rw [add_mk]
              refine .row (Ss := fun j => Ss (l * ie.sz + j)) g1 (by omega) (by omega) (fun t ht => g4 t (List.mem_of_mem_take (List.mem_of_mem_drop ht))) (fun j ct hj => ?_) g6 (fun j => g7 _) (fun j b hb => g8 _ b hb) (fun i j b hi hj => by have := g9 _ _ b hi hj; omega)
              have := g5 _ ct (flat_take g4 hlh hh0 hj).1
              rwa [← Nat.add_assoc] at this
        · exact h.elim
      · exact h.elim
    · exact h.elim
  · rename_i i1 i2 i3 i4 i5 hi'
    have hu : P.underlying t = some .string := tt_str hC (by rw [hi']; rfl)
    replace h := opr_out hs h
    obtain ⟨c, h, hv, -⟩ := h
    split at h
    · rename_i b
      obtain ⟨l, h, hl⟩ := bnd_out hs h
      obtain ⟨m, ⟨hlm, hmb, h⟩, hm⟩ := bnd_out hs h
      have key : (Instr.slice t (.string b) (lo.map a.eval) (hi.map a.eval) none).run P w = .ok (.string (b.extract l m)) w := by
        rcases hl with ⟨e1, e2⟩ | ⟨y, k, e1, hy⟩
        · rcases hm with ⟨e3, e4⟩ | ⟨y2, k2, e3, hy2⟩
          · rw [e1, e3, e2, e4]
            show (Instr.slice t (.string b) none none none).run P w = _
            exact run_slice_string_all w t b hu
          · rw [e1, e3, e2]
            show (Instr.slice t (.string b) none (some (a.eval y2)) none).run P w = _
            rw [hy2, run_slice_string_h (w := w) (ht := hu) (kh := k2) (h0 := by omega) (h2 := by omega)]; rfl
        · rcases hm with ⟨e3, e4⟩ | ⟨y2, k2, e3, hy2⟩
          · rw [e1, e3, e4]
            show (Instr.slice t (.string b) (some (a.eval y)) none none).run P w = _
            rw [hy, run_slice_string_l (w := w) (ht := hu) (kl := k) (h0 := by omega) (h1 := by omega)]; rfl
          · rw [e1, e3]
            show (Instr.slice t (.string b) (some (a.eval y)) (some (a.eval y2)) none).run P w = _
            rw [hy, hy2, run_slice_string (w := w) (h := hu) (k := k) (k' := k2) (h0 := by omega) (h1 := by omega) (h2 := by omega)]; rfl
      refine wp_val (y := .string (b.extract l m)) (w' := w) ?_ (after_val hs hd (x := .vv (.string (b.extract l m))) ⟨rfl, rfl⟩ (lt_c trivial) h)
      simp only [execOp, ho, hv.1, Option.map_none, Sem.run_bind, run_sliceAt_string (h := hu), key, Result.andThen_ok, Sem.run_pure]
    · exact h.elim
  · exact h.elim
theorem op_makeFunc {g : Nat} {fi ca : Array Operand} (ho : o.op = .makeFunc (.func g) fi ca) (hs : Sim G s a w) (hd : okDst o.dst s.n = true) (h : aop C (.makeFunc (.func g) fi ca) o.dst s K) : o.wp P a w (After G K) Q := by
  simp only [aop] at h
  split at h
  · rename_i x hfi hca
    have hfi' : fi = #[] := by cases fi; simp_all
    have hca' : ca = #[x] := by cases ca; simp_all
    subst hfi'; subst hca'
    replace h := opr_out hs h
    obtain ⟨c, h, hv, hlt⟩ := h
    split at h
    · rename_i d q
      split at h
      · rename_i q' l hr
        obtain ⟨rfl, h⟩ := h
        have hy := hv.2 ⟨l, hr⟩
        refine wp_val (y := .func (.func g) #[] #[.pointer (some ⟨G.β d, 0, none⟩)]) (w' := w) ?_ (after_val hs hd (x := .c (.clo g d q')) ⟨rfl, fun _ => rfl⟩ (lt_c hlt) h)
        simp only [execOp, ho, List.map_toArray, List.map_cons, List.map_nil, hy, Instr.makeFunc, Sem.run_bind, Sem.run_pure, Result.andThen_ok]
      · exact h.elim
    · exact h.elim
  · exact h.elim
theorem run_clearZ (w : World) (t e ty : TypeId) (z : Value) (ht : P.underlying t = some (.slice e)) (hv : ∀ w, (zeroValue e).run P w = .ok z w) (h1 : ∀ v ∈ z.cells.toList, v.oneCell' = true) (b o n c : Nat)
    (hc : ∀ j, j < n * z.cells.size → (w.cell? ⟨b, o + j, none⟩).isSome = true) (hf : ∀ j, j < n * z.cells.size → w.frozen? ⟨b, o + j, none⟩ = false) :
    (Builtin.clear_ #[t] ty #[.slice (some ⟨b, o, none⟩) n c]).run P w = .ok (.tuple #[]) (w.setCells b o (Builtin.zeroCells z.cells n).toList) := by
  have hlen : (Builtin.zeroCells z.cells n).toList.length = n * z.cells.size := by simp [Builtin.zeroCells]
  have hst := run_storeCells_cells (P := P) b o (Builtin.zeroCells z.cells n).toList 0 w (by rw [hlen]; simpa using hc) (by rw [hlen]; simpa using hf) (by
    intro v hv'
    simp only [Builtin.zeroCells, Array.toList_map, List.mem_map] at hv'
    obtain ⟨i, hi, rfl⟩ := hv'
    by_cases hz0 : z.cells.size = 0
    · rw [hz0] at hi; simp at hi
    · have hlt : i % z.cells.size < z.cells.size := Nat.mod_lt _ (by omega)
      rw [getElem!_pos z.cells _ hlt]
      exact h1 _ (Array.mem_toList_iff.2 (Array.getElem_mem hlt)))
  simp only [Nat.add_zero] at hst
  cases n with
  | zero => simp [Builtin.clear_, run_underlying ht, Builtin.zeroCells, World.setCells]
  | succ m => simp [Builtin.clear_, run_underlying ht, hv, hst]
theorem flat_app (a b : List T) : flat (a ++ b) = flat a ++ flat b := by simp [flat]
theorem zcells {e : Nat} {ie : TI} (tie : TIok P e ie) : (T.ofCells ie.agg ie.zt).cells = ie.zt := by
  obtain ⟨j, z, hj, hjsz, hjby, hz, hzc, hagg⟩ := tie.info
  cases hg : ie.agg with
  | true => rfl
  | false =>
    rw [hg] at hagg
    simp only [Bool.false_eq_true, if_false] at hagg
    obtain ⟨x0, hx0, _⟩ := hagg
    have hl := tie.zt.1
    rw [hx0] at hl
    obtain ⟨t0, ht0⟩ := List.length_eq_one_iff.1 hl
    rw [ht0]
    have := tie.zt.2 0 x0 t0 (by rw [hx0]; rfl) (by rw [ht0]; rfl)
    rcases this with ⟨rfl, _⟩ | ⟨e, rfl, _⟩ <;> rfl
theorem op_clear {c : Call} (ho : o.op = .call c) (hc : c.callee = .builtin .clear) (hC : CtxOk P C) (hs : Sim G s a w) (hd : okDst o.dst s.n = true) (h : aop C (.call c) o.dst s K) : o.wp P a w (After G K) Q := by
  obtain ⟨cal, args, tys⟩ := c
  simp only at hc
  subst hc
  simp only [aop] at h
  split at h
  · rename_i x t hx ht
    have hx' : args = #[x] := by cases args; simp_all
    have ht' : tys = #[t] := by cases tys; simp_all
    subst hx'; subst ht'
    split at h
    · rename_i i1 i2 i3 i4 i5 e hi
      split at h
      · rename_i ie hie
        replace h := opr_out hs h
        obtain ⟨c1, h, hv, hlt⟩ := h
        split at h
        · rename_i d q e' l hh
          split at h
          · rename_i q' sv e0 es hr
            cases hb : (Nat.beq e0 e' && Nat.beq e' ie.sz && Nat.ble 1 ie.sz) with
            | false => rw [hb] at h; exact h.elim
            | true =>
            rw [hb] at h
            simp only [cond_true] at h
            simp only [Bool.and_eq_true] at hb
            have he1 : e0 = e' := Nat.eq_of_beq_eq_true hb.1.1
            have he2 : e' = ie.sz := Nat.eq_of_beq_eq_true hb.1.2
            have hsz : 1 ≤ ie.sz := Nat.le_of_ble_eq_true hb.2
            subst he1; subst he2
            obtain ⟨rfl, hflat, h⟩ := h
            have hu := tt_elem (hC.tt _ _ hi)
            have tie := hC.tt _ _ hie
            obtain ⟨j, z, hj, hjsz, hjby, hz, hzc, hagg⟩ := tie.info
            have hzv : ∀ w : World, (zeroValue e).run P w = .ok z w := fun w => by
              simp only [zeroValue, Sem.run_bind, run_typeInfo _ hj, Result.andThen_ok, hz, Sem.run_pure]
            have hzs : z.cells.size = ie.sz := by rw [← Array.length_toList, hzc]; exact tie.len
            obtain ⟨A, n, cp, hA, hyv, hl, hn⟩ := hv.2 ⟨sv, es, hr⟩
            have how := (hs.ob d _ hr).2
            have hcells := zcells tie
            have hzl : ie.zt.length = ie.sz := tie.zt.1.trans tie.len
            have fin : ∀ {w' : World}, (Builtin.clear_ #[t] o.type #[a.eval x]).run P w = .ok (.tuple #[]) w' → Up w w' → (∀ b, b < w.heap.size → ¬ G.S d b → w'.heap[b]? = w.heap[b]?) →
                Ow w' (.sl ie.sz (es.take l ++ (List.replicate (hh - l) (T.ofCells ie.agg ie.zt) ++ es.drop hh))) (G.y d) (G.S d) → o.wp P a w (After G K) Q := by
              intro w' hrun hg hold how'
              have hs' := hs.wrote hr (w' := w') (es' := es.take l ++ (List.replicate (hh - l) (T.ofCells ie.agg ie.zt) ++ es.drop hh)) (Sn := G.S d) hg (fun b hb hR => hold b (by have := hs.grown; omega) (fun hS => by
                rcases (hs.own d b hS).2 with h1 | h1
                · omega
                · exact hR h1)) (fun d' b hd' hb => hold b (hs.own d' b hb).1 (fun hS => hd' (hs.apart d' d b hb hS))) how' (fun b hb => ⟨by have := (hs.own d b hb).1; have := hg.size; omega, (hs.own d b hb).2, fun d' hd' hb' => hd' (hs.apart d' d b hb' hb)⟩)
              refine wp_val (y := .tuple #[]) (w' := w') ?_ (after_of (hs'.put (by simpa using hd) (x := .c .any) trivial (lt_c trivial)) ⟨rfl, rfl, rfl, fun _ _ => rfl, fun _ _ => rfl⟩ (h G.k))
              simp only [execOp, ho, resolve, invoke, builtin, Sem.run_bind, Sem.run_pure, Result.andThen_ok, List.map_toArray, List.map_cons, List.map_nil, hrun]
            rw [hA] at how
            have stay : hh - l = 0 → Ow w (.sl ie.sz es) (G.y d) (G.S d) → o.wp P a w (After G K) Q := by
              intro h0 how0
              have e1 : es.take l ++ (List.replicate (hh - l) (T.ofCells ie.agg ie.zt) ++ es.drop hh) = es := by
                rw [h0, show hh = l by omega]; simp
              refine fin (w' := w) ?_ (Up.refl _) (fun _ _ _ => rfl) (by rw [e1]; exact how0)
              rw [hyv]
              unfold sliced
              rw [h0]
              cases A <;> by_cases hcl : cp = l <;> simp [Builtin.clear_, run_underlying hu, hcl]
            cases how with
            | nil => exact stay (by omega) (by rw [hA]; exact .nil)
            | @row _ g o' _ cur te _ Ss S h1 h2 h3 h4 h5 h6 h7 h8 h9 =>
              by_cases h0 : hh - l = 0
              · exact stay h0 (by rw [hA]; exact .row h1 h2 h3 h4 h5 h6 h7 h8 h9)
              have hcl : ¬ cp = l := by omega
              have hcap : es.length * ie.sz ≤ cp * ie.sz := Nat.mul_le_mul_right _ h2
              have hmul : l * ie.sz + (hh - l) * ie.sz ≤ es.length * ie.sz := by rw [← Nat.add_mul]; exact Nat.mul_le_mul_right _ (by omega)
              have hy2 : a.eval x = .slice (some ⟨g, o' + l * ie.sz, none⟩) (hh - l) (cp - l) := by
                rw [hyv]; unfold sliced; rw [if_neg hcl, Option.map_some, add_mk]
              have hrun := run_clearZ (P := P) w t e o.type z hu hzv (fun v hv => tie.one v (by rw [← hzc]; exact hv)) g (o' + l * ie.sz) (hh - l) (cp - l) (fun j hj => by
                rw [hzs] at hj
                rw [cell_arr h1, getD_arr (d := undef) (by omega)]; rfl) (fun j hj => by simp [World.frozen?, h1])
              have hzlen : (Builtin.zeroCells z.cells (hh - l)).toList.length = (hh - l) * ie.sz := by simp [Builtin.zeroCells, hzs]
              have hnew := cells_setCells g te (Builtin.zeroCells z.cells (hh - l)).toList (o' + l * ie.sz) w cur.toList (by simpa using h1) (by rw [hzlen]; simp; omega)
              have hother : ∀ b, b ≠ g → (w.setCells g (o' + l * ie.sz) (Builtin.zeroCells z.cells (hh - l)).toList).heap[b]? = w.heap[b]? := fun b hb => other_setCells _ _ _ _ _ hb
              refine fin (by rw [hy2]; exact hrun) (up_setCells _ _ _ _) (fun b _ hS => hother b (fun e => hS (e ▸ h6))) ?_
              have hlen2 : (es.take l ++ (List.replicate (hh - l) (T.ofCells ie.agg ie.zt) ++ es.drop hh)).length = es.length := by simp; omega
              have hall : ∀ t ∈ es.take l ++ (List.replicate (hh - l) (T.ofCells ie.agg ie.zt) ++ es.drop hh), t.cells.length = ie.sz := fun t ht => by
                rcases List.mem_append.1 ht with ht | ht
                · exact h4 t (List.mem_of_mem_take ht)
                · rcases List.mem_append.1 ht with ht | ht
                  · rw [List.eq_of_mem_replicate ht, hcells, hzl]
                  · exact h4 t (List.mem_of_mem_drop ht)
              have ft : (flat (es.take l)).length = l * ie.sz := by rw [flat_len (fun t ht => h4 t (List.mem_of_mem_take ht)), List.length_take, Nat.min_eq_left (by omega)]
              have fr : (flat (List.replicate (hh - l) (T.ofCells ie.agg ie.zt))).length = (hh - l) * ie.sz := by
                rw [flat_len (e := ie.sz) (fun t ht => by rw [List.eq_of_mem_replicate ht, hcells, hzl]), List.length_replicate]
              have hsplit : flat es = flat (es.take l) ++ (flat ((es.drop l).take (hh - l)) ++ flat (es.drop hh)) := by
                rw [← flat_app, ← flat_app]
                congr 1
                rw [show es.drop hh = (es.drop l).drop (hh - l) by rw [List.drop_drop]; congr 1; omega, List.take_append_drop, List.take_append_drop]
              have fm : (flat ((es.drop l).take (hh - l))).length = (hh - l) * ie.sz := by
                rw [flat_len (fun t ht => h4 t (List.mem_of_mem_drop (List.mem_of_mem_take ht))), List.length_take, List.length_drop, Nat.min_eq_left (by omega)]
              rw [hA]
              have hmk : Value.slice (some ⟨g, o', none⟩) es.length cp = .slice (some ⟨g, o', none⟩) (es.take l ++ (List.replicate (hh - l) (T.ofCells ie.agg ie.zt) ++ es.drop hh)).length cp := by rw [hlen2]
              rw [hmk]
              refine .row (Ss := fun _ _ => False) hnew (by rw [hlen2]; exact h2) (by simp [setL_len]; exact h3) hall (fun j ct hj => ?_) h6 (fun _ h => h) (fun _ _ h => h.elim) (fun _ _ _ h => h.elim)
              rw [Array.getD_eq_getD_getElem?, List.getElem?_toArray, setL_get _ _ _ _ (by rw [hzlen]; simp; omega), hzlen]
              rw [flat_app, flat_app, List.getElem?_append, ft] at hj
              have hold : (flat es)[j]? = some ct → Ow (w.setCells g (o' + l * ie.sz) (Builtin.zeroCells z.cells (hh - l)).toList) ct (cur.toList[o' + j]?.getD undef) (fun _ => False) := fun hfe => by
                have hm := List.mem_of_getElem? hfe
                simp only [flat, List.mem_flatMap] at hm
                obtain ⟨t1, ht1, hc1⟩ := hm
                obtain ⟨x1, rfl⟩ := hflat t1 ht1 ct hc1
                have h5' := h5 j _ hfe
                rw [Array.getD_eq_getD_getElem?, ← Array.getElem?_toList] at h5'
                generalize cur.toList[o' + j]?.getD undef = zz at h5'
                cases h5' with
                | v h => exact .v h
              by_cases hj1 : j < l * ie.sz
              · rw [if_pos hj1] at hj
                rw [if_neg (by omega)]
                refine hold ?_
                rw [hsplit, List.getElem?_append_left (by omega)]; exact hj
              · rw [if_neg hj1, List.getElem?_append, fr] at hj
                by_cases hj2 : j - l * ie.sz < (hh - l) * ie.sz
                · rw [if_pos hj2] at hj
                  rw [if_pos (by omega)]
                  have hk : (j - l * ie.sz) / ie.sz < hh - l := Nat.div_lt_of_lt_mul (by rw [Nat.mul_comm ie.sz (hh - l)]; exact hj2)
                  have hjm : j - l * ie.sz = ((j - l * ie.sz) / ie.sz) * ie.sz + (j - l * ie.sz) % ie.sz := by
                    have hdm := Nat.div_add_mod (j - l * ie.sz) ie.sz
                    rw [Nat.mul_comm ie.sz ((j - l * ie.sz) / ie.sz)] at hdm
                    exact hdm.symm
                  have hmod : (j - l * ie.sz) % ie.sz < ie.sz := Nat.mod_lt _ (by omega)
                  rw [hjm, flat_get (e := ie.sz) (fun t ht => by rw [List.eq_of_mem_replicate ht, hcells, hzl]) (by rw [List.getElem?_replicate, if_pos hk]) hmod, hcells] at hj
                  have hz1 : ie.zero[(j - l * ie.sz) % ie.sz]? = some (z.cells[(j - l * ie.sz) % ie.sz]!) := by
                    rw [← hzc]
                    simp [hzs, hmod]
                  have := zt_ow (w := w.setCells g (o' + l * ie.sz) (Builtin.zeroCells z.cells (hh - l)).toList) (tie.zt.2 _ _ ct hz1 hj)
                  have hgd : (Builtin.zeroCells z.cells (hh - l)).toList[o' + j - (o' + l * ie.sz)]?.getD undef = z.cells[(j - l * ie.sz) % ie.sz]! := by
                    rw [show o' + j - (o' + l * ie.sz) = j - l * ie.sz by omega]
                    simp [Builtin.zeroCells, hzs, hj2]
                  rw [hgd]; exact this
                · rw [if_neg hj2] at hj
                  rw [if_neg (by omega)]
                  refine hold ?_
                  rw [hsplit, List.getElem?_append_right (by omega), ft, List.getElem?_append_right (by omega), fm]; exact hj
          · exact h.elim
        · exact h.elim
      · exact h.elim
    · exact h.elim
  · exact h.elim
end
end Go.Proofs.Ytadpancnhinlbaa.E
