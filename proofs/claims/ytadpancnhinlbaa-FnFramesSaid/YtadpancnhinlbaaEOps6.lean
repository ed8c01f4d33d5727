/- Append. -/
import Derived.Test.YtadpancnhinlbaaEOps5
namespace Go.Proofs.Ytadpancnhinlbaa.E
set_option linter.unusedVariables false
set_option linter.unusedSimpArgs false
section
variable {P : Program} {C : Ctx} {G : Gh} {w : World} {s : St} {a : Act} {o : Oper} {K : St → Prop} {Q : Exit → Act → World → Prop}

theorem base_out {e : Nat} {c : A1} {y : Value} {K' : List T → St → Prop} (hs : Sim G s a w) (hv : V1 G w s.ob c y) (h : base e s c K') :
    ∃ es s1 G1 Sb, K' es s1 ∧ Gone G w s a G1 s1 ∧ Ow w (.sl e es) y Sb ∧ Free G w G1 Sb := by
  unfold base at h
  split at h
  · rename_i d q
    split at h
    · rename_i q' sv e' es hr
      cases hbe : Nat.beq e' e with
      | false => rw [hbe] at h; exact h.elim
      | true =>
        rw [hbe] at h
        have he : e' = e := Nat.eq_of_beq_eq_true hbe
        subst he
        obtain ⟨rfl, h⟩ := h
        have hy := hv.2 ⟨sv, e', es, hr⟩
        refine ⟨_, _, _, G.S d, h, hs.gone d, by rw [hy]; exact (hs.ob d _ hr).2, fun b hb => ⟨d, hb⟩, fun b d' hb hb' => ?_⟩
        have hb1 : upd G.S d (fun _ => False) d' b := hb'
        by_cases he : d' = d
        · rw [he, upd_same] at hb1; exact hb1
        · rw [upd_other _ _ he] at hb1; exact he (hs.apart d' d b hb1 hb)
    · exact h.elim
  · rw [hv.1]
    exact ⟨[], s, G, fun _ => False, h, Gone.refl hs, .nil, fun _ h => h.elim, fun _ _ h => h.elim⟩
  · exact h.elim
theorem flat_setCells {e k off : Nat} {es ts : List T} {t : T} (h4 : ∀ t ∈ es, t.cells.length = e) (ht : es[k]? = some t) (hts : ∀ x ∈ ts, x.cells = [x]) (hfit : off + ts.length ≤ e) : flat (es.set k (t.setCells off ts)) = setL (flat es) (k * e + off) ts := by
  have hcl : t.cells.length = e := h4 t (List.mem_of_getElem? ht)
  have hk : k < es.length := (List.getElem?_eq_some_iff.1 ht).1
  have hsc := setCells_eq (t := t) (off := off) hts (by omega)
  rw [flat_set _ h4 ht (by rw [setCells_len hts, hcl]), hsc]
  have hfl := flat_len h4
  have hk2 : (k + 1) * e ≤ es.length * e := Nat.mul_le_mul_right _ (by omega)
  rw [Nat.succ_mul] at hk2
  apply List.ext_getElem?
  intro j
  rw [setL_get _ _ _ _ (by rw [setL_len]; omega), setL_get _ _ _ _ (by omega), setL_len]
  by_cases hj : k * e ≤ j ∧ j < k * e + t.cells.length
  · rw [if_pos hj, setL_get _ _ _ _ (by omega)]
    by_cases hj2 : k * e + off ≤ j ∧ j < k * e + off + ts.length
    · rw [if_pos hj2, if_pos (by omega)]; congr 1; omega
    · rw [if_neg hj2, if_neg (by omega)]
      obtain ⟨m, rfl⟩ : ∃ m, j = k * e + m := ⟨j - k * e, by omega⟩
      rw [flat_get h4 ht (by omega)]; congr 1; omega
  · rw [if_neg hj, setL_get _ _ _ _ (by have := flat_len h4; omega), if_neg (by omega)]
/-- A row is taken out of a row. -/
theorem carve_out {e d q sv j : Nat} {y : Value} {K' : List T → St → Prop} (hs : Sim G s a w) (hv : V1 G w s.ob (.sub d q sv j) y) (h : carve e s d q sv j K') :
    ∃ es s1 G1, ∃ Sb : Nat → Prop, K' es s1 ∧ Sim G1 s1 a w ∧ Keep G G1 ∧ s1.n = s.n ∧ Ow w (.sl e es) y Sb ∧ (∀ b, Sb b → G.S d b) ∧ ∀ b d', Sb b → ¬ G1.S d' b := by
  unfold carve at h
  split at h
  · rename_i q' sv' e0 es0 hr
    obtain ⟨rfl, rfl, k, off, t, ts, hj, hoff, ht, hc, h⟩ := h
    have how := (hs.ob d _ hr).2
    have hmem := List.mem_of_getElem? ht
    have hk : k < es0.length := (List.getElem?_eq_some_iff.1 ht).1
    cases hz : G.y d with
    | slice A n c =>
      rw [hz] at how
      cases how with
      | nil => simp at ht
      | @row _ g o' _ cur te _ Ss S h1 h2 h3 h4 h5 h6 h7 h8 h9 =>
        have hfl := flat_len h4
        have hk1 : (k + 1) * e0 ≤ c * e0 := Nat.mul_le_mul_right _ (by omega)
        have hk2 : (k + 1) * e0 ≤ es0.length * e0 := Nat.mul_le_mul_right _ (by omega)
        rw [Nat.succ_mul] at hk1 hk2
        have hct : (flat es0)[j]? = some (.sl e ts) := by rw [hj, flat_get h4 ht hoff]; exact hc
        have hjl : j < (flat es0).length := (List.getElem?_eq_some_iff.1 hct).1
        obtain ⟨g1, o1, n1, c1, hy, hcell⟩ := hv.2 ⟨e0, es0, hr, hjl⟩
        rw [hz] at hy
        cases hy
        rw [cell_arr h1, getD_arr (d := undef) (by omega)] at hcell
        have hcy : cur.getD (o' + j) undef = y := Option.some.inj hcell
        have hsub := h5 j _ hct
        rw [hcy] at hsub
        have hts : ∀ x ∈ [T.v y], x.cells = [x] := fun x hx => by simp at hx; subst hx; rfl
        have hfs := flat_setCells (off := off) (ts := [T.v y]) h4 ht hts (by simp; omega)
        have hcl : t.cells.length = e0 := h4 t hmem
        have hown : Ow w (.sl e0 (es0.set k (t.setCells off [.v y]))) (G.y d) (fun b => G.S d b ∧ ¬ Ss j b) := by
          have hlen2 : es0.length = (es0.set k (t.setCells off [.v y])).length := by simp
          rw [hz]
          have : Value.slice (some ⟨g, o', none⟩) es0.length c = Value.slice (some ⟨g, o', none⟩) (es0.set k (t.setCells off [.v y])).length c := by rw [← hlen2]
          rw [this]
          refine .row (Ss := fun i b => if i = j then False else Ss i b) h1 (by rw [← hlen2]; exact h2) h3 (fun x hx => ?_) (fun i ct hi => ?_) ⟨h6, h7 j⟩ (fun i hi => ?_) (fun i b hi => ?_) (fun i i' b hi hi' => ?_)
          · rcases List.mem_or_eq_of_mem_set hx with h | h
            · exact h4 x h
            · rw [h, setCells_len hts, hcl]
          · rw [hfs, setL_get _ _ _ _ (by simp; omega)] at hi
            by_cases hij : i = j
            · subst hij
              rw [if_pos (by simp; omega), hj, Nat.sub_self] at hi
              simp at hi
              subst hi
              simp only [if_true]
              rw [hcy]; exact .v hsub.one
            · rw [if_neg (by simp; omega)] at hi
              simp only [hij, if_false]
              exact h5 i ct hi
          · split at hi
            · exact hi
            · exact h7 i hi
          · split at hi
            · exact hi.elim
            · rename_i hne; exact ⟨h8 i b hi, fun hb => hne (h9 i j b hi hb)⟩
          · split at hi <;> split at hi'
            · exact hi.elim
            · exact hi.elim
            · exact hi'.elim
            · exact h9 i i' b hi hi'
        have hs' := hs.wrote hr (w' := w) (es' := es0.set k (t.setCells off [.v y])) (Sn := fun b => G.S d b ∧ ¬ Ss j b) (Up.refl _) (fun _ _ _ => rfl) (fun _ _ _ _ => rfl) hown
          (fun b hb => ⟨(hs.own d b hb.1).1, (hs.own d b hb.1).2, fun d' hd' hb' => hd' (hs.apart d' d b hb' hb.1)⟩)
        refine ⟨ts, _, _, Ss j, h G.k y, hs', ⟨rfl, rfl, rfl, fun _ _ => rfl, fun _ _ => rfl⟩, rfl, hsub, fun b hb => h8 j b hb, fun b d' hb hb' => ?_⟩
        have hb1 : upd G.S d (fun b => G.S d b ∧ ¬ Ss j b) d' b := hb'
        by_cases hd' : d' = d
        · rw [hd', upd_same] at hb1; exact hb1.2 hb
        · rw [upd_other _ _ hd'] at hb1; exact hd' (hs.apart d' d b hb1 (h8 j b hb))
    | _ => rw [hz] at how; cases how <;> simp at ht
  · exact h.elim
/-- What is appended, cell by cell. -/
structure Src (w : World) (e : Nat) (fs : List T) (x : Value) (u : Nat → Value) (Sx : Nat → Nat → Prop) : Prop where
  val : ∃ A c, x = .slice A fs.length c ∧ (fs ≠ [] → ∃ ad, A = some ad ∧ ∀ j ct, (flat fs)[j]? = some ct → w.cell? (ad.add j) = some (u j))
  len : ∀ t ∈ fs, t.cells.length = e
  ow : ∀ j ct, (flat fs)[j]? = some ct → Ow w ct (u j) (Sx j)
  apart : ∀ i j b, Sx i b → Sx j b → i = j
theorem src_nil {A : Option Addr} {c e : Nat} : Src w e [] (.slice A 0 c) (fun _ => undef) (fun _ _ => False) := ⟨⟨A, c, rfl, fun h => absurd rfl h⟩, fun t h => by simp at h, fun j ct h => by simp [flat] at h, fun _ _ _ h => h.elim⟩
theorem src_out {kp : Bool} {e : Nat} {c : A1} {y : Value} {K' : List T → St → Prop} (hs : Sim G s a w) (hv : V1 G w s.ob c y) (h : src kp e s c K') :
    ∃ fs s1 G1 u Sx, K' fs s1 ∧ Gone G w s a G1 s1 ∧ Src w e fs y u Sx ∧ ∀ j, Free G w G1 (Sx j) := by
  unfold src at h
  split at h
  · rename_i d q
    split at h
    · rename_i q' sv e' es hr
      cases hbe : Nat.beq e' e with
      | false => rw [hbe] at h; exact h.elim
      | true =>
        rw [hbe] at h
        have he : e' = e := Nat.eq_of_beq_eq_true hbe
        subst he
        obtain ⟨rfl, h⟩ := h
        have hy := hv.2 ⟨sv, e', es, hr⟩
        have how := (hs.ob d _ hr).2
        rw [← hy] at how
        cases kp with
        | true =>
          obtain ⟨hflat, h⟩ := h
          generalize y = z at how
          cases how with
          | nil => exact ⟨_, _, _, _, _, h, Gone.refl hs, src_nil, fun j => ⟨fun _ h => h.elim, fun _ _ h => h.elim⟩⟩
          | @row _ g o' cap cur te _ Ss S h1 h2 h3 h4 h5 h6 h7 h8 h9 =>
            refine ⟨_, _, _, fun j => cur.getD (o' + j) undef, fun _ _ => False, h, Gone.refl hs, ⟨⟨_, _, rfl, fun _ => ⟨_, rfl, fun j ct hj => ?_⟩⟩, h4, fun j ct hj => ?_, fun _ _ _ h => h.elim⟩, fun j => ⟨fun _ h => h.elim, fun _ _ h => h.elim⟩⟩
            · have hfl := flat_len h4
              have hlt : j < (flat es).length := (List.getElem?_eq_some_iff.1 hj).1
              have hcap : es.length * e' ≤ cap * e' := Nat.mul_le_mul_right _ h2
              rw [add_mk, cell_arr h1]
              exact getD_arr (by omega)
            · have hm := List.mem_of_getElem? hj
              simp only [flat, List.mem_flatMap] at hm
              obtain ⟨t, ht, hc⟩ := hm
              obtain ⟨x, rfl⟩ := hflat t ht ct hc
              have := h5 j _ hj
              generalize cur.getD (o' + j) undef = z at this
              cases this with
              | v h => exact .v h
        | false =>
        simp only [cond_false] at h
        have hfree : ∀ Sx : Nat → Prop, (∀ b, Sx b → G.S d b) → Free G w { G with S := upd G.S d (fun _ => False) } Sx := fun Sx hS => ⟨fun b hb => ⟨d, hS b hb⟩, fun b d' hb hb' => by
          have hb1 : upd G.S d (fun _ => False) d' b := hb'
          by_cases he : d' = d
          · rw [he, upd_same] at hb1; exact hb1
          · rw [upd_other _ _ he] at hb1; exact he (hs.apart d' d b hb1 (hS b hb))⟩
        cases how with
        | nil => exact ⟨_, _, _, _, _, h, hs.gone d, src_nil, fun j => hfree _ (fun b h => h.elim)⟩
        | @row _ g o' cap cur te _ Ss S h1 h2 h3 h4 h5 h6 h7 h8 h9 =>
          refine ⟨_, _, _, fun j => cur.getD (o' + j) undef, Ss, h, hs.gone d, ⟨⟨_, _, rfl, fun _ => ⟨_, rfl, fun j ct hj => ?_⟩⟩, h4, h5, h9⟩, fun j => hfree _ (h8 j)⟩
          have hfl := flat_len h4
          have hlt : j < (flat es).length := (List.getElem?_eq_some_iff.1 hj).1
          have hcap : es.length * e' ≤ cap * e' := Nat.mul_le_mul_right _ h2
          rw [add_mk, cell_arr h1]
          exact getD_arr (by omega)
    · exact h.elim
  · rename_i e' es
    cases hbe : Nat.beq e' e with
    | false => rw [hbe] at h; exact h.elim
    | true =>
      rw [hbe] at h
      have he : e' = e := Nat.eq_of_beq_eq_true hbe
      subst he
      obtain ⟨hflat, h⟩ := h
      have hv' : Rd G.w0 G.Z (.sl e' es) y := hv
      cases hv' with
      | nil => exact ⟨_, _, _, _, _, h, Gone.refl hs, src_nil, fun j => ⟨fun _ h => h.elim, fun _ _ h => h.elim⟩⟩
      | @row _ ad _ cap u h1 h2 h3 h4 h5 =>
        refine ⟨_, _, _, u, fun _ _ => False, h, Gone.refl hs, ⟨⟨_, _, rfl, fun _ => ⟨_, rfl, fun j ct hj => ?_⟩⟩, h3, fun j ct hj => ?_, fun _ _ _ h => h.elim⟩, fun j => ⟨fun _ h => h.elim, fun _ _ h => h.elim⟩⟩
        · rw [old_cell hs (by rw [add_block]; exact h2)]; exact h4 j ct hj
        · have hm := List.mem_of_getElem? hj
          simp only [flat, List.mem_flatMap] at hm
          obtain ⟨t, ht, hc⟩ := hm
          obtain ⟨x, rfl⟩ := hflat t ht ct hc
          have := h5 j _ hj
          generalize u j = z at this
          cases this with
          | v h => exact .v h
  · rw [hv.1]
    exact ⟨_, _, _, _, _, h, Gone.refl hs, src_nil, fun j => ⟨fun _ h => h.elim, fun _ _ h => h.elim⟩⟩
  · exact h.elim
theorem run_zero {t te : Nat} {j : TypeInfo} {ty : Nat} (hu : P.underlying t = some (.slice te)) (hj : P.info? te = some j) {A B : Option Addr} {n c d : Nat} (hn : n ≤ c) :
    (Builtin.append_ #[t, t] ty #[.slice A n c, .slice B 0 d]).run P w = .ok (.slice A n c) w := by
  cases A <;> cases B <;> simp [Builtin.append_, run_underlying hu, sizeOf, typeInfo, hj, Builtin.lenOf, hn, Builtin.firstCells, loadCells, loadCellsFrom, storeCells]
theorem run_room {t te : Nat} {j : TypeInfo} {ty : Nat} (hu : P.underlying t = some (.slice te)) (hj : P.info? te = some j) {g o' n cap m c te' : Nat} {cur : Array Value} {ad : Addr} {news : List Value} (hg : w.heap[g]? = some (.cells cur te' (0, 0)))
    (hl : news.length = m * j.size) (hnews : ∀ k u, news[k]? = some u → w.cell? (ad.add k) = some u) (h1 : ∀ u ∈ news, u.oneCell' = true) (hroom : n + m ≤ cap) (hfit : o' + n * j.size + news.length ≤ cur.size) :
    (Builtin.append_ #[t, t] ty #[.slice (some ⟨g, o', none⟩) n cap, .slice (some ad) m c]).run P w = .ok (.slice (some ⟨g, o', none⟩) (n + m) cap) (w.setCells g (o' + n * j.size) news) := by
  have hf := run_firstCells_some (P := P) w j.size m ad m c news hl hnews
  have hst := run_storeCells_cells (P := P) g (o' + n * j.size) news 0 w (fun k hk => by
    rw [cell_arr hg]; simp only [Nat.add_zero]
    rw [getD_arr (d := undef) (by omega)]; rfl) (fun k hk => by simp [World.frozen?, hg]) h1
  simp only [Nat.add_zero] at hst
  simp [Builtin.append_, run_underlying hu, sizeOf, typeInfo, hj, Builtin.lenOf, hroom, hf, add_mk, hst]
set_option maxHeartbeats 1000000 in
theorem append_run {t te : Nat} {i : TI} {ty : Nat} (hu : P.underlying t = some (.slice te)) (ti : TIok P te i) {es fs : List T} {y x : Value} {Sb : Nat → Prop} {u : Nat → Value} {Sx : Nat → Nat → Prop} (hb : Ow w (.sl i.sz es) y Sb) (hx : Src w i.sz fs x u Sx)
    (hlt : ∀ b, Sb b → b < w.heap.size) (hlt2 : ∀ j b, Sx j b → b < w.heap.size ∧ ¬ Sb b) (hbd : es.length + fs.length ≤ bound) :
    ∃ y' w' S', (Builtin.append_ #[t, t] ty #[y, x]).run P w = .ok y' w' ∧ Ow w' (.sl i.sz (es ++ fs)) y' S' ∧ (∀ b, S' b → b < w'.heap.size ∧ (Sb b ∨ (∃ j, Sx j b) ∨ w.heap.size ≤ b)) ∧ Up w w' ∧ (∀ b, b < w.heap.size → ¬ Sb b → w'.heap[b]? = w.heap[b]?) := by
  obtain ⟨j, z, hj, hjsz, hjby, hz, hzc, _⟩ := ti.info
  have hbd' : es.length + fs.length ≤ 16777216 := hbd
  have hby : j.bytes ≤ 1024 := by rw [hjby]; exact ti.bytes
  have hmul : (es.length + fs.length) * j.bytes ≤ 16777216 * 1024 := Nat.mul_le_mul hbd' hby
  obtain ⟨A, c, rfl, hsrc⟩ := hx.val
  by_cases hfs : fs = []
  · subst hfs
    obtain ⟨B, d, rfl⟩ := hb.sl_val
    have hle : es.length ≤ d := by cases hb with
      | nil => exact Nat.zero_le _
      | row _ h2 => exact h2
    exact ⟨_, w, Sb, run_zero hu hj hle, by rw [List.append_nil]; exact hb, fun b hb => ⟨hlt b hb, .inl hb⟩, Up.refl _, fun _ _ _ => rfl⟩
  · obtain ⟨ad, rfl, hcell⟩ := hsrc hfs
    have hm : 0 < fs.length := List.length_pos_iff.2 hfs
    let news := (flat fs).zipIdx.map fun c => u c.2
    have hnl : news.length = fs.length * j.size := by rw [hjsz, ← flat_len hx.len]; simp [news]
    have hnget : ∀ k v, news[k]? = some v → v = u k ∧ ∃ ct, (flat fs)[k]? = some ct := by
      intro k v hk
      simp only [news, List.getElem?_map, List.getElem?_zipIdx, Option.map_map, Option.map_eq_some_iff, Function.comp_apply, Nat.zero_add] at hk
      obtain ⟨ct, hct, rfl⟩ := hk
      exact ⟨rfl, ct, hct⟩
    have hnews : ∀ k v, news[k]? = some v → w.cell? (ad.add k) = some v := fun k v hk => by
      obtain ⟨rfl, ct, hct⟩ := hnget k v hk
      exact hcell k ct hct
    have hone : ∀ v ∈ news, v.oneCell' = true := fun v hv => by
      obtain ⟨k, hk⟩ := List.getElem?_of_mem hv
      obtain ⟨rfl, ct, hct⟩ := hnget k v hk
      exact (hx.ow k ct hct).one
    have hall : ∀ l : List T, (∀ t ∈ l, t.cells.length = i.sz) → ∀ t ∈ l ++ fs, t.cells.length = i.sz := fun l hl t ht => (List.mem_append.1 ht).elim (hl t) (hx.len t)
    have hflat : ∀ l : List T, flat (l ++ fs) = flat l ++ flat fs := fun l => by simp [flat]
    -- a new block
    have grow : ∀ (olds : List Value) (Ss : Nat → Nat → Prop) (N : Nat), (∀ t ∈ es, t.cells.length = i.sz) → olds.length = es.length * j.size → (∀ k ct, (flat es)[k]? = some ct → Ow w ct (olds.getD k undef) (Ss k)) → (∀ k b, Ss k b → Sb b) → (∀ m k b, Ss m b → Ss k b → m = k) → es.length + fs.length ≤ N →
        Ow (w.drew.alloc (.cells (olds.toArray ++ news.toArray ++ Builtin.zeroCells z.cells (N - (es.length + fs.length))) te)) (.sl i.sz (es ++ fs)) (.slice (some ⟨w.heap.size, 0, none⟩) (es.length + fs.length) N) (fun b => b = w.heap.size ∨ Sb b ∨ ∃ j, Sx j b) := by
      intro olds Ss N hel hol how hSs hdis hN
      have hv : Value.slice (some ⟨w.heap.size, 0, none⟩) (es.length + fs.length) N = .slice (some ⟨w.heap.size, 0, none⟩) (es ++ fs).length N := by rw [List.length_append]
      rw [hv]
      have hbsame : ∀ b, b < w.heap.size → (w.drew.alloc (.cells (olds.toArray ++ news.toArray ++ Builtin.zeroCells z.cells (N - (es.length + fs.length))) te)).heap[b]? = w.heap[b]? := fun b hb => heap_alloc_old w.drew _ b hb
      have hfe := flat_len hel
      have hff := flat_len hx.len
      have hnew := heap_alloc_new w.drew (.cells (olds.toArray ++ news.toArray ++ Builtin.zeroCells z.cells (N - (es.length + fs.length))) te)
      refine .row (o := 0) (Ss := fun k b => if k < (flat es).length then Ss k b else Sx (k - (flat es).length) b) hnew (by rw [List.length_append]; exact hN) ?_ (hall es hel) (fun k ct hk => ?_) (.inl rfl) (fun k hk => ?_) (fun k b hk => ?_) (fun m k b hm' hk => ?_)
      · have hzs : z.cells.size = j.size := by rw [← Array.length_toList, hzc, hjsz]; exact ti.len
        have h3 : N * j.size = es.length * j.size + fs.length * j.size + (N - (es.length + fs.length)) * j.size := by
          rw [← Nat.add_mul, ← Nat.add_mul]; congr 1; omega
        simp only [Array.size_append, List.size_toArray, Builtin.zeroCells, Array.size_map, Array.size_range, hol, hnl, hzs, ← hjsz]
        omega
      · rw [hflat, List.getElem?_append] at hk
        rw [Nat.zero_add, Array.getD_eq_getD_getElem?, Array.getElem?_append_left (by simp [hol, hnl]; split at hk <;> have := (List.getElem?_eq_some_iff.1 hk).1 <;> rw [hjsz] <;> omega)]
        split at hk
        · rename_i hlt'
          rw [Array.getElem?_append_left (by simp [hol]; rw [hjsz]; omega)]
          have := how k ct hk
          rw [List.getD_eq_getElem?_getD] at this
          simp only [hlt', if_true, List.getElem?_toArray]
          exact this.move (fun b hb => hbsame b (hlt b (hSs k b hb)))
        · rename_i hge
          have hkl := (List.getElem?_eq_some_iff.1 hk).1
          rw [Array.getElem?_append_right (by simp [hol]; rw [hjsz]; omega)]
          have := hx.ow _ ct hk
          have hnk : news[k - (flat es).length]? = some (u (k - (flat es).length)) := by
            simp only [news, List.getElem?_map, List.getElem?_zipIdx, hk, Option.map_some, Nat.zero_add]
          have hke : k - olds.length = k - (flat es).length := by rw [hol, hjsz, hfe]
          simp only [hge, if_false, List.getElem?_toArray, List.size_toArray, hke, hnk, Option.getD_some]
          exact this.move (fun b hb => hbsame b (hlt2 _ b hb).1)
      · split at hk
        · exact absurd (hlt _ (hSs _ _ hk)) (Nat.lt_irrefl _)
        · exact absurd (hlt2 _ _ hk).1 (Nat.lt_irrefl _)
      · split at hk
        · exact .inr (.inl (hSs _ _ hk))
        · exact .inr (.inr ⟨_, hk⟩)
      · split at hm' <;> split at hk
        · exact hdis _ _ _ hm' hk
        · exact absurd (hSs _ _ hm') (hlt2 _ _ hk).2
        · exact absurd (hSs _ _ hk) (hlt2 _ _ hm').2
        · have := hx.apart _ _ _ hm' hk; omega
    have fin : ∀ (old : Nat), old < es.length + fs.length → es.length + fs.length ≤ grownCap w (es.length + fs.length) old te ∧ Builtin.nextslicecap (es.length + fs.length) old * j.bytes ≤ 281474976710656 := fun old ho => ⟨grownCap_ge _ _ _ _, growslice_fits ho (by omega)⟩
    have new_ok : ∀ N : Nat, ∀ cells : Array Value, ∀ b, (fun b => b = w.heap.size ∨ Sb b ∨ ∃ j, Sx j b) b → b < (w.drew.alloc (.cells cells te)).heap.size ∧ (Sb b ∨ (∃ j, Sx j b) ∨ w.heap.size ≤ b) := by
      intro N cells b hb
      have hsz : (w.drew.alloc (.cells cells te)).heap.size = w.heap.size + 1 := by simp
      rcases hb with rfl | hb | ⟨j, hb⟩
      · exact ⟨by omega, .inr (.inr (Nat.le_refl _))⟩
      · exact ⟨by have := hlt b hb; omega, .inl hb⟩
      · exact ⟨by have := (hlt2 j b hb).1; omega, .inr (.inl ⟨j, hb⟩)⟩
    cases hb with
    | @nil _ B _ =>
      have hg := grow [] (fun _ _ => False) (grownCap w ([].length + fs.length) 0 te) (fun t ht => by simp at ht) (by simp) (fun k ct hk => by simp [flat] at hk) (fun _ _ h => h.elim) (fun _ _ _ h => h.elim) (fin 0 (by simp; omega)).1
      obtain ⟨h1, h2⟩ := fin 0 (by simp; omega)
      simp only [List.length_nil, Nat.zero_add, List.nil_append, Array.empty_append] at hg h1 h2 hmul ⊢
      cases B with
      | none =>
        have hr := run_append_nil (P := P) w t ty te j z hu hj hz ad fs.length c news hnl hnews hm (by omega) (by omega)
        exact ⟨_, _, _, hr, hg, new_ok 0 _, up_drew _ _, fun b hb _ => heap_alloc_old w.drew _ b hb⟩
      | some ba =>
        have hr := run_append_grow (P := P) w t ty te j z hu hj hz ba 0 0 [] (by simp) (fun k v h => by simp at h) ad fs.length c news hnl hnews (by omega) (by omega) (by simpa using h2)
        simp only [Nat.zero_add, Array.empty_append] at hr
        exact ⟨_, _, _, hr, hg, new_ok 0 _, up_drew _ _, fun b hb _ => heap_alloc_old w.drew _ b hb⟩
    | @row _ g o' cap cur te' _ Ss S h1 h2 h3 h4 h5 h6 h7 h8 h9 =>
      have hfe := flat_len h4
      have hff := flat_len hx.len
      have hcap : es.length * i.sz ≤ cap * i.sz := Nat.mul_le_mul_right _ h2
      by_cases hroom : es.length + fs.length ≤ cap
      · have hcap2 : (es.length + fs.length) * i.sz ≤ cap * i.sz := Nat.mul_le_mul_right _ hroom
        rw [Nat.add_mul] at hcap2
        have hr := run_room (P := P) (ty := ty) (c := c) (o' := o') (n := es.length) (cap := cap) hu hj h1 hnl hnews hone hroom (by rw [hnl, hjsz]; omega)
        have hnew := cells_setCells g te' news (o' + es.length * j.size) w cur.toList (by simpa using h1) (by rw [hnl, hjsz]; simp; omega)
        have hother : ∀ b, b ≠ g → (w.setCells g (o' + es.length * j.size) news).heap[b]? = w.heap[b]? := fun b hb => other_setCells _ _ _ _ _ hb
        refine ⟨_, _, fun b => Sb b ∨ ∃ j, Sx j b, hr, ?_, fun b hb => ?_, up_setCells _ _ _ _, fun b _ hb => hother b (fun e => hb (e ▸ h6))⟩
        · have hv : Value.slice (some ⟨g, o', none⟩) (es.length + fs.length) cap = .slice (some ⟨g, o', none⟩) (es ++ fs).length cap := by rw [List.length_append]
          rw [hv]
          refine .row (Ss := fun k b => if k < (flat es).length then Ss k b else Sx (k - (flat es).length) b) hnew (by rw [List.length_append]; exact hroom) (by simp [setL_len]; exact h3) (hall es h4) (fun k ct hk => ?_) (.inl h6) (fun k hk => ?_) (fun k b hk => ?_) (fun m k b hm' hk => ?_)
          · rw [hflat, List.getElem?_append] at hk
            rw [Array.getD_eq_getD_getElem?, List.getElem?_toArray, setL_get _ _ _ _ (by rw [hnl, hjsz]; simp; omega)]
            split at hk
            · rename_i hlt'
              rw [if_neg (by rw [hjsz]; omega)]
              have := h5 k ct hk
              rw [Array.getD_eq_getD_getElem?] at this
              simp only [hlt', if_true, Array.getElem?_toList]
              exact this.move (fun b hb => hother b (fun e => h7 k (e ▸ hb)))
            · rename_i hge
              have hkl := (List.getElem?_eq_some_iff.1 hk).1
              rw [if_pos (by rw [hnl, hjsz]; omega)]
              have := hx.ow _ ct hk
              have hnk : news[k - (flat es).length]? = some (u (k - (flat es).length)) := by
                simp only [news, List.getElem?_map, List.getElem?_zipIdx, hk, Option.map_some, Nat.zero_add]
              have hke : o' + k - (o' + es.length * j.size) = k - (flat es).length := by rw [hjsz, hfe]; omega
              simp only [hge, if_false, hke, hnk, Option.getD_some]
              exact this.move (fun b hb => hother b (fun e => (hlt2 _ b hb).2 (e ▸ h6)))
          · split at hk
            · exact h7 _ hk
            · exact (hlt2 _ _ hk).2 h6
          · split at hk
            · exact .inl (h8 _ _ hk)
            · exact .inr ⟨_, hk⟩
          · split at hm' <;> split at hk
            · exact h9 _ _ _ hm' hk
            · exact absurd (h8 _ _ hm') (hlt2 _ _ hk).2
            · exact absurd (h8 _ _ hk) (hlt2 _ _ hm').2
            · have := hx.apart _ _ _ hm' hk; omega
        · rw [size_setCells]
          rcases hb with hb | ⟨j, hb⟩
          · exact ⟨hlt b hb, .inl hb⟩
          · exact ⟨(hlt2 j b hb).1, .inr (.inl ⟨j, hb⟩)⟩
      · obtain ⟨hge, hfit⟩ := fin cap (by omega)
        let olds := (flat es).zipIdx.map fun c => cur.getD (o' + c.2) undef
        have hol : olds.length = es.length * j.size := by rw [hjsz, ← hfe]; simp [olds]
        have hoget : ∀ k ct, (flat es)[k]? = some ct → olds[k]? = some (cur.getD (o' + k) undef) := fun k ct hk => by simp only [olds, List.getElem?_map, List.getElem?_zipIdx, hk, Option.map_some, Nat.zero_add]
        have holds : ∀ k v, olds[k]? = some v → w.cell? ((⟨g, o', none⟩ : Addr).add k) = some v := fun k v hk => by
          have hkl : k < (flat es).length := by have := (List.getElem?_eq_some_iff.1 hk).1; simpa [olds] using this
          rw [hoget k _ (List.getElem?_eq_getElem hkl)] at hk
          cases hk
          rw [add_mk, cell_arr h1]
          exact getD_arr (by omega)
        have hr := run_append_grow (P := P) w t ty te j z hu hj hz ⟨g, o', none⟩ es.length cap olds hol holds ad fs.length c news hnl hnews (by omega) (by omega) hfit
        have hg := grow olds Ss (grownCap w (es.length + fs.length) cap te) h4 hol (fun k ct hk => by rw [getD_of (hoget k ct hk)]; exact h5 k ct hk) h8 h9 hge
        exact ⟨_, _, _, hr, hg, new_ok 0 _, up_drew _ _, fun b hb _ => heap_alloc_old w.drew _ b hb⟩
end
end Go.Proofs.Ytadpancnhinlbaa.E
