/- Memory that is made; literals of structs; append. -/
import Derived.Test.YtadpancnhinlbaaEOps4
namespace Go.Proofs.Ytadpancnhinlbaa.E
set_option linter.unusedVariables false
set_option linter.unusedSimpArgs false
section
variable {P : Program} {C : Ctx} {G : Gh} {w : World} {s : St} {a : Act} {o : Oper} {K : St → Prop} {Q : Exit → Act → World → Prop}

/-- A row of the function's own comes out of an operation. -/
theorem after_rowN {n : Nat} {G1 : Gh} {s1 : St} {w' : World} {y : Value} {Sn : Nat → Prop} {e : Nat} {es : List T} (hn : 1000 ≤ n) (hs : Sim G s a w) (hg : Gone G w s a G1 s1) (hd : okDst o.dst s.n = true) (hr : (execOp a.eval o).run P w = .ok (.value y) w') (hgr : Up w w')
    (hold : ∀ b, b < G1.w0.heap.size → ¬ G1.R b → w'.heap[b]? = w.heap[b]?) (hkeep : ∀ d b, d ≠ n → G1.S d b → w'.heap[b]? = w.heap[b]?)
    (ho : Ow w' (.sl e es) y Sn) (hSn : ∀ b, Sn b → b < w'.heap.size ∧ ((G1.w0.heap.size ≤ b ∨ G1.R b) ∧ ∀ d, d ≠ n → ¬ G1.S d b)) (h : ∀ q, K ((s1.set n (.row q 0 e es)).put o.dst (.c (.own n q)))) : o.wp P a w (After G K) Q := by
  refine wp_val hr ?_
  have hs' := hg.sim.row n 0 hgr hold hkeep ho hSn (Nat.succ_pos _)
  refine after_of (hs'.put (by simpa [hg.n] using hd) (x := .c (.own n G1.k)) (own_new (w := w') (upd_same _ _ _) ho.one) (lt_c (Nat.lt_succ_self G1.k))) ⟨hg.keep.w0, hg.keep.R, hg.keep.fx, fun d hd => ?_, fun d hd => hg.keep.β d hd⟩ (h G1.k)
  show upd G1.y n _ d = _
  rw [upd_other _ _ (by omega)]; exact hg.keep.y d hd
theorem after_row {G1 : Gh} {s1 : St} {w' : World} {y : Value} {Sn : Nat → Prop} {e : Nat} {es : List T} (hs : Sim G s a w) (hg : Gone G w s a G1 s1) (hd : okDst o.dst s.n = true) (hr : (execOp a.eval o).run P w = .ok (.value y) w') (hgr : Up w w')
    (hold : ∀ b, b < G1.w0.heap.size → ¬ G1.R b → w'.heap[b]? = w.heap[b]?) (hkeep : ∀ d b, d ≠ nm o.dst → G1.S d b → w'.heap[b]? = w.heap[b]?)
    (ho : Ow w' (.sl e es) y Sn) (hSn : ∀ b, Sn b → b < w'.heap.size ∧ ((G1.w0.heap.size ≤ b ∨ G1.R b) ∧ ∀ d, d ≠ nm o.dst → ¬ G1.S d b)) (h : ∀ q, K ((s1.set (nm o.dst) (.row q 0 e es)).put o.dst (.c (.own (nm o.dst) q)))) : o.wp P a w (After G K) Q :=
  after_rowN (nm_ge _) hs hg hd hr hgr hold hkeep ho hSn h
theorem apN_ge (d : Option Nat) (a : A1) : 1000 ≤ apN d a := by
  unfold apN
  split
  · rename_i n q
    cases h : Nat.ble 1000 n with
    | true => exact Nat.le_of_ble_eq_true h
    | false => exact nm_ge _
  · exact nm_ge _
theorem zt_ow {x : Value} {t : T} (h : ZT x t) : Ow w t x (fun _ => False) := by
  rcases h with ⟨rfl, h⟩ | ⟨e, rfl, rfl⟩
  · exact .v h
  · exact .nil
theorem op_makeSlice {t : Nat} {x y : Operand} (ho : o.op = .makeSlice t x y) (hC : CtxOk P C) (hs : Sim G s a w) (hd : okDst o.dst s.n = true) (h : aop C (.makeSlice t x y) o.dst s K) : o.wp P a w (After G K) Q := by
  simp only [aop] at h
  split at h
  · rename_i i1 i2 i3 i4 i5 e hi
    split at h
    · rename_i ie hie
      replace h := opi_out hs h
      obtain ⟨k, n, h, hx⟩ := h
      replace h := opi_out hs h
      obtain ⟨k', m, h, hy⟩ := h
      cases hb : (kEq k .i64 && kEq k' .i64 && Nat.ble 1 ie.sz) with
      | false => rw [hb] at h; exact h.elim
      | true =>
        rw [hb] at h
        simp only [cond_true] at h
        simp only [Bool.and_eq_true] at hb
        have hsz : 1 ≤ ie.sz := Nat.le_of_ble_eq_true hb.2
        have hk := kEq_eq hb.1.1; have hk' := kEq_eq hb.1.2
        subst hk; subst hk'
        obtain ⟨rfl, h0, hbd, h⟩ := h
        have hu := tt_elem (hC.tt _ _ hi)
        have tie := hC.tt _ _ hie
        obtain ⟨j, z, hj, hjsz, hjby, hz, hzc, hagg⟩ := tie.info
        obtain ⟨N, rfl⟩ : ∃ N : Nat, m = N := ⟨m.toNat, by omega⟩
        simp only [Int.toNat_natCast] at hbd h
        have hbd' : N ≤ 16777216 := hbd
        have hby : j.bytes ≤ 1024 := by rw [hjby]; exact tie.bytes
        have hmul : j.bytes * N ≤ 1024 * 16777216 := Nat.mul_le_mul hby hbd'
        have hbi : (j.bytes : Int) * (N : Int) ≤ 281474976710656 := by
          have h1 : ((j.bytes * N : Nat) : Int) ≤ 1024 * 16777216 := by omega
          rw [Int.natCast_mul] at h1; omega
        have hr := run_make (P := P) w t e j z hu hj hz .i64 .i64 N N (by omega) (Int.le_refl _) hbi (by omega)
        simp only [Int.toNat_natCast] at hr
        have hcells : (T.ofCells ie.agg ie.zt).cells = ie.zt := by
          cases hg : ie.agg with
          | true => rfl
          | false =>
            rw [hg] at hagg
            simp only [Bool.false_eq_true, if_false] at hagg
            obtain ⟨x0, hx0, _⟩ := hagg
            have hl := tie.zt.1
            rw [hx0] at hl
            obtain ⟨t0, ht0⟩ := List.length_eq_one_iff.1 hl
            rw [ht0]
            have := tie.zt.2 0 x0 t0 (by rw [hx0]; rfl) (by rw [ht0]; rfl)
            rcases this with ⟨rfl, _⟩ | ⟨e, rfl, _⟩ <;> rfl
        have hzl : ie.zt.length = ie.sz := tie.zt.1.trans tie.len
        have hzs : z.cells.size = ie.sz := by rw [← Array.length_toList, hzc]; exact tie.len
        refine after_row hs (Gone.refl hs) hd (w' := w.alloc (.cells (madeCells z.cells (N * j.size)) e)) (y := .slice (some ⟨w.heap.size, 0, none⟩) N N) (Sn := fun b => b = w.heap.size) ?_ (up_alloc _ _) (fun b hb _ => heap_alloc_old w _ b (by have := hs.grown; omega)) (fun d b _ hb => heap_alloc_old w _ b (hs.own d b hb).1) ?_ (fun b hb => by subst hb; exact ⟨by simp, .inl hs.grown, fun d _ hd => absurd (hs.own d _ hd).1 (Nat.lt_irrefl _)⟩) h
        · simp only [execOp, ho, hx, hy, Sem.run_bind, hr, Result.andThen_ok, Sem.run_pure]
        · have hlen : (List.replicate N (T.ofCells ie.agg ie.zt)).length = N := by simp
          have hall : ∀ t ∈ List.replicate N (T.ofCells ie.agg ie.zt), t.cells.length = ie.sz := fun t ht => by rw [List.eq_of_mem_replicate ht, hcells, hzl]
          have hval : Value.slice (some ⟨w.heap.size, 0, none⟩) N N = .slice (some ⟨w.heap.size, 0, none⟩) (List.replicate N (T.ofCells ie.agg ie.zt)).length N := by rw [hlen]
          rw [hval]
          refine .row (o := 0) (Ss := fun _ _ => False) (heap_alloc_new w _) (by rw [hlen]; exact Nat.le_refl _) (by rw [size_madeCells, hjsz]; omega) hall (fun m ct hm => ?_) rfl (fun _ h => h) (fun _ _ h => h.elim) (fun _ _ _ h => h.elim)
          have hml : m < N * ie.sz := by have := (List.getElem?_eq_some_iff.1 hm).1; rw [flat_len hall, hlen] at this; exact this
          have hk : m / ie.sz < N := Nat.div_lt_of_lt_mul (by rw [Nat.mul_comm]; exact hml)
          have hjm : m = (m / ie.sz) * ie.sz + m % ie.sz := by rw [Nat.mul_comm]; exact (Nat.div_add_mod m ie.sz).symm
          have hmod : m % ie.sz < ie.sz := Nat.mod_lt _ (by omega)
          rw [hjm, flat_get hall (by rw [List.getElem?_replicate, if_pos hk]) hmod, hcells] at hm
          have hz1 : ie.zero[m % ie.sz]? = some (z.cells[m % ie.sz]!) := by
            rw [← hzc]
            simp [hzs, hmod]
          have := zt_ow (w := w.alloc (.cells (madeCells z.cells (N * j.size)) e)) (tie.zt.2 _ _ ct hz1 hm)
          have hgd : (madeCells z.cells (N * j.size)).getD (0 + m) undef = z.cells[m % ie.sz]! := by
            simp [madeCells, Array.getD, hjsz, hml, hzs]
          rw [hgd]; exact this
    · exact h.elim
  · exact h.elim

theorem sizes_out (hC : CtxOk P C) : ∀ {fs fz : List (Nat × Nat)} {fl : List Field}, fl.map (fun f => (f.offset, f.type)) = fs → sizes C.tt fs = some fz → fl.mapM (fun f => (P.info? f.type).map fun i => (f.offset, i.size)) = some fz
  | fs, fz, [], hm, h => by subst hm; simp [sizes] at h; subst h; rfl
  | fs, fz, f :: fl, hm, h => by
    subst hm
    simp only [List.map_cons, sizes] at h
    split at h
    · rename_i i l hi hl
      cases h
      have := sizes_out hC (fl := fl) rfl hl
      obtain ⟨j, z, hj, hsz, _⟩ := (hC.tt _ _ hi).info
      simp [List.mapM_cons, hj, this, hsz]
    · cases h
theorem lay_out {fz : List (Nat × Nat)} (hs : Sim G s a w) : ∀ {ps : List (Nat × Operand)} {cs : List A1} {cur : Array Value} {K' : List A1 → Prop}, VL G w s.ob cs cur.toList → (∀ x ∈ cs, x.lt G.k) → lay s fz cs ps K' →
    ∃ cs' cur', K' cs' ∧ VL G w s.ob cs' cur'.toList ∧ (∀ x ∈ cs', x.lt G.k) ∧ Instr.fill (fz.toArray[·]?) cur (ps.map fun p => (p.1, a.eval p.2)) = some cur'
  | [], cs, cur, K', hv, hl, h => ⟨cs, cur, h, hv, hl, rfl⟩
  | (i, x) :: ps, cs, cur, K', hv, hl, h => by
    simp only [lay] at h
    split at h
    · rename_i off sz b hf hb
      cases hc : (Nat.beq b.cells.length sz && b.cells.all A1.known && Nat.ble (off + sz) cs.length) with
      | false => rw [hc] at h; exact h.elim
      | true =>
        rw [hc] at h
        simp only [cond_true] at h
        simp only [Bool.and_eq_true] at hc
        have hlen : b.cells.length = sz := Nat.eq_of_beq_eq_true hc.1.1
        have hfit : off + sz ≤ cs.length := Nat.le_of_ble_eq_true hc.2
        have hx := hs.eval x
        rw [hb] at hx
        have hvl := cells_of hx.1 hc.1.2
        have hyl : (a.eval x).cells.size = sz := by rw [← Array.length_toList]; exact hvl.1.trans hlen
        have hcs : cur.size = cs.length := by rw [← Array.length_toList]; exact hv.1
        obtain ⟨hsz2, hget⟩ := Great.foldl_set off (a.eval x).cells.toList 0 cur
        let cur1 := ((a.eval x).cells.toList.zipIdx 0).foldl (fun cs (x : Value × Nat) => cs.setIfInBounds (off + x.2) x.1) cur
        have hc1 : cur1.toList = setL cur.toList off (a.eval x).cells.toList := by
          apply List.ext_getElem?
          intro k
          rw [setL_get _ _ _ _ (by simp; omega), Array.getElem?_toList]
          show (((a.eval x).cells.toList.zipIdx 0).foldl _ cur)[k]? = _
          rw [hget k]
          simp only [Nat.add_zero, Array.length_toList, Array.getElem?_toList]
          by_cases hk : off ≤ k ∧ k < off + (a.eval x).cells.size
          · rw [if_pos ⟨hk.1, hk.2, by omega⟩, if_pos hk]
          · rw [if_neg (fun h => hk ⟨h.1, h.2.1⟩), if_neg hk]
        have hv1 : VL G w s.ob (setL cs off b.cells) cur1.toList := by
          rw [hc1]
          refine ⟨by rw [setL_len, setL_len]; exact hv.1, fun j c hj => ?_⟩
          rw [setL_get _ _ _ _ (by omega)] at hj
          simp only [List.getD_eq_getElem?_getD]
          rw [setL_get _ _ _ _ (by simp; omega), hvl.1]
          split at hj
          · rename_i hjr
            rw [if_pos hjr]
            have := hvl.2 (j - off) c hj
            rwa [List.getD_eq_getElem?_getD] at this
          · rename_i hjr
            rw [if_neg hjr]
            have := hv.2 j c hj
            rwa [List.getD_eq_getElem?_getD] at this
        have hl1 : ∀ c ∈ setL cs off b.cells, c.lt G.k := by
          intro c hc
          obtain ⟨j, hj⟩ := List.getElem?_of_mem hc
          rw [setL_get _ _ _ _ (by omega)] at hj
          split at hj
          · exact hx.2 c (List.mem_of_getElem? hj)
          · exact hl c (List.mem_of_getElem? hj)
        obtain ⟨cs', cur', h, hv', hl', hfill⟩ := lay_out hs (ps := ps) hv1 hl1 h
        refine ⟨cs', cur', h, hv', hl', ?_⟩
        simp only [List.map_cons, Instr.fill]
        have hf' : fz.toArray[i]? = some (off, sz) := by simpa using hf
        rw [hf']
        simp only
        rw [if_neg (by simp [hyl]; omega)]
        have hz : (a.eval x).cells.zipIdx.foldl (fun cs (x : Value × Nat) => cs.setIfInBounds (off + x.2) x.1) cur = cur1 := by
          rw [← Array.foldl_toList, Array.toList_zipIdx]
        exact hz ▸ hfill
    · exact h.elim
theorem op_build {t : Nat} {ps : Array (Nat × Operand)} (ho : o.op = .build t ps) (hC : CtxOk P C) (hs : Sim G s a w) (hd : okDst o.dst s.n = true) (h : aop C (.build t ps) o.dst s K) : o.wp P a w (After G K) Q := by
  simp only [aop] at h
  split at h
  · rename_i i1 i2 i3 z i5 fs hi
    split at h
    · rename_i fz hfz
      have ti := hC.tt _ _ hi
      obtain ⟨j, zv, hj, hjsz, hjby, hz, hzc, _⟩ := ti.info
      obtain ⟨d, hu, _, fa, hd1, hm⟩ := ti.desc
      subst hd1
      have hone := ti.one
      simp only at hzc hone
      obtain ⟨cs', cur', h, hv, hl, hfill⟩ := lay_out hs (cur := zv.cells) (cs := z.map .v) (by
        rw [hzc]
        refine ⟨by simp, fun j x hx => ?_⟩
        rw [List.getElem?_map, Option.map_eq_some_iff] at hx
        obtain ⟨y, hy, rfl⟩ := hx
        rw [getD_of hy]
        have := hone y (List.mem_of_getElem? hy)
        exact ⟨⟨rfl, this⟩, this⟩) (fun x hx => by obtain ⟨y, _, rfl⟩ := List.mem_map.1 hx; trivial) h
      have hb : P.built t (ps.map fun p => (p.1, a.eval p.2)).toList = some cur' := by
        simp only [Program.built, hj, hu, hz, sizes_out hC hm hfz]
        rw [Array.toList_map]
        exact hfill
      refine wp_val (y := .agg cur') (w' := w) ?_ (after_val hs hd (x := .o (.agg cs')) ⟨cur'.toList, by simp, hv⟩ hl h)
      simp only [execOp, ho, Sem.run_bind, run_build w t _ cur' hb, Result.andThen_ok, Sem.run_pure]
    · exact h.elim
  · exact h.elim
end
end Go.Proofs.Ytadpancnhinlbaa.E
