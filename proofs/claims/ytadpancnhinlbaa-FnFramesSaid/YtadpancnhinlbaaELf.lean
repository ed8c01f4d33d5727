/- Contracts of functions of this seat's program. -/
import Derived.Test.YtadpancnhinlbaaETy
import Derived.Test.YtadpancnhinlbaaEFx
namespace Go.Proofs.Ytadpancnhinlbaa.E
set_option linter.unusedVariables false
set_option linter.unusedSimpArgs false
set_option maxHeartbeats 1600000
theorem okL_make {l : List Int} (hl : l.length ≤ bound) : okL (makeCh l) := by
  have := makeCh_in l hl
  exact ⟨by omega, fun d hd => ⟨by have := (this.2 d hd).1; omega, (this.2 d hd).2⟩⟩
theorem eP_small {L : List (List Int)} (h : okL L) (h5 : L.length ≤ 5) (h8 : ∀ d ∈ L, d.length ≤ 8) : ∀ {i : Nat}, i ≤ L.length → eP L i ≤ 23 * i
  | 0, _ => Nat.le_refl _
  | i + 1, hi => by
    have := eP_small h h5 h8 (i := i) (by omega)
    have e := eP_suc h (i := i) (by omega)
    have := h8 _ (List.getElem_mem (show i < L.length by omega))
    omega
theorem totL_small {L : List (List Int)} : ∀ (h8 : ∀ d ∈ L, d.length ≤ 8), totL L ≤ 23 * L.length := by
  induction L with
  | nil => intro _; exact Nat.le_refl _
  | cons d L ih =>
    intro h8
    have := ih (fun x hx => h8 x (List.mem_cons_of_mem _ hx))
    have := h8 d List.mem_cons_self
    simp only [totL, List.map_cons, List.sum_cons, List.length_cons] at *
    omega
theorem strP_isB {L : List (List Int)} (h : okL L) : ∀ n, n ≤ L.length → isB (strP L n) := by
  intro n
  induction n with
  | zero => intro _ x hx; cases hx
  | succ n ih =>
    intro hn
    rw [strP_suc h hn]
    exact isB_app (ih (by omega)) (isB_app (hdr3_B _ _) (h.2 _ (List.getElem_mem hn)).2)
theorem byte_ne {x y : Int} (hx : 0 ≤ x ∧ x < 256) (hy : 1 ≤ y ∧ y ≤ 255) : Go.bits .xor .u8 x y ≠ x ∧ 0 ≤ Go.bits .xor .u8 x y ∧ Go.bits .xor .u8 x y < 256 := by
  obtain ⟨a, rfl⟩ := Int.eq_ofNat_of_zero_le hx.1
  obtain ⟨b, rfl⟩ := Int.eq_ofNat_of_zero_le (show 0 ≤ y by omega)
  have ha : a < 2 ^ 8 := by omega
  have hb : b < 2 ^ 8 := by omega
  have hk : Go.IntKind.bits .u8 = 8 := rfl
  have hxx : a ^^^ b < 2 ^ 8 := Nat.xor_lt_two_pow ha hb
  have e : Go.bits .xor .u8 (a : Int) (b : Int) = ((a ^^^ b : Nat) : Int) := by
    simp only [Go.bits, hk, BitVec.ofInt_natCast, BitVec.toNat_xor, BitVec.toNat_ofNat, Nat.mod_eq_of_lt ha, Nat.mod_eq_of_lt hb]
    rw [Go.IntKind.wrap_u8]
    omega
  rw [e]
  refine ⟨fun h => ?_, by omega, by omega⟩
  have h : a ^^^ b = a := by omega
  have h2 : a ^^^ (a ^^^ b) = a ^^^ a := by rw [h]
  simp only [← Nat.xor_assoc, Nat.xor_self, Nat.zero_xor] at h2
  omega
theorem asU {d : List Int} (h : isB d) : ∃ U : List UInt8, d.map T.u8 = U.map (fun b => T.v (.int .u8 b.toNat)) := by
  refine ⟨d.map (fun x => UInt8.ofNat x.toNat), ?_⟩
  rw [List.map_map]
  refine List.map_congr_left (fun x hx => ?_)
  have := h x hx
  show T.v (.int .u8 x) = T.v (.int .u8 ((UInt8.ofNat x.toNat).toNat : Nat))
  rw [UInt8.toNat_ofNat', Nat.mod_eq_of_lt (by omega)]
  congr 2
  omega
theorem fl_Chunk (L : List Y_Chunk) {j : Nat} (h : j < L.length) : (List.flatMap T.cells (L.map t_Chunk))[((j : Int)).toNat * 1 + 0]? = some (T.sl 1 (L[j].map T.u8)) := by
  have : List.flatMap T.cells (L.map t_Chunk) = L.map (fun d => T.sl 1 (d.map T.u8)) := by
    clear h
    induction L with
    | nil => rfl
    | cons d L ih => rw [List.map_cons, List.flatMap_cons, ih]; rfl
  rw [this]
  simp [h]
set_option maxRecDepth 20000 in
set_option maxHeartbeats 32000000 in
theorem l_FnFrames (l : List Int) : Spec Try.prog 3 [.ro (.sl 1 (l.map T.u8))] [T.bool true] := by
  refine fn Try.func3 ?_
  repeat (first | refine brT ?_ | refine brF ?_ | refine And.intro rfl ?_ | refine And.intro trivial ?_ | intro _)
  refine brI (fun h => ?_) (fun h => ?_)
  · exact tb rfl
  have hl : l.length ≤ bound := by
    have h' := of_decide_eq_false h
    rw [List.length_map] at h'
    unfold bound; omega
  have sm := s_MakeChunks l hl
  have okl := okL_make hl
  obtain ⟨m5, m8⟩ := makeCh_in l hl
  have sn := s_MakeNum l hl
  have nn' := makeNum_in l hl
  generalize makeCh l = L at *
  have okC : L.length ≤ bound ∧ ∀ y ∈ L, ok_Chunk y := ⟨by unfold bound; omega, fun y hy => ⟨by have := (m8 y hy).1; unfold bound; omega, (m8 y hy).2⟩⟩
  have ht := totL_small (fun d hd => (m8 d hd).1)
  have iS := i_Stream L okC (by unfold bound; omega)
  rw [stream_ok okl] at iS
  obtain ⟨b, hb⟩ : ∃ b, b = strP L L.length := ⟨_, rfl⟩
  have bB : isB b := by rw [hb]; exact strP_isB okl _ (Nat.le_refl _)
  have bL : b.length = eP L L.length := by rw [hb]; rfl
  have bS := eP_small okl m5 (fun d hd => (m8 d hd).1) (Nat.le_refl _)
  have bb : b.length ≤ bound := by unfold bound; omega
  have iC := i_Scan b bB bb
  have iW := i_Whole b bB bb
  have eC : scan b = (L, (b.length : Int), 0) := by
    have := scan_whole okl (Nat.le_refl _)
    rw [List.take_length, ← hb, ← bL] at this
    exact this
  rw [eC] at iC iW
  obtain ⟨k0, k1⟩ := nn' (b.length + 1) (by omega)
  have e1 : w64 (((b.map T.u8).length : Int) + 1) = b.length + 1 := by rw [List.length_map]; exact w64_id (by omega) (by unfold bound at bb; omega)
  have iN := sn (w64 (((b.map T.u8).length : Int) + 1))
  rw [show makeNum l (w64 (((b.map T.u8).length : Int) + 1)) = makeNum l (b.length + 1) by rw [e1]] at iN
  generalize makeNum l (b.length + 1) = k at *
  obtain ⟨k, rfl⟩ : ∃ n : Nat, k = n := ⟨k.toNat, by omega⟩
  have hk : k ≤ b.length := by omega
  obtain ⟨I, hI, hIk, hIj, eT⟩ := cut_at okl (k := k) (by omega)
  have iT := i_Scan (b.take k) (isB_take bB k) (by rw [List.length_take]; omega)
  rw [← hb] at eT
  obtain ⟨w, hw⟩ : ∃ w : Int, w = if (eP L I : Int) = k then 0 else 1 := ⟨_, rfl⟩
  rw [← hw] at eT
  rw [eT] at iT
  have hw2 : (w = 0 ∨ w = 1) ∧ decide (w = 0) = decide ((eP L I : Int) = k) := by
    by_cases e : (eP L I : Int) = k
    · rw [if_pos e] at hw; rw [hw]; exact ⟨.inl rfl, by simp [e]⟩
    · rw [if_neg e] at hw; rw [hw]; exact ⟨.inr rfl, by simp [e]⟩
  rw [← tk_u8] at iT
  have hkl : ((k : Int)).toNat ≤ (b.map T.u8).length := by rw [List.length_map]; omega
  have i255 := nn' 255 (by omega)
  have s255 := sn 255
  generalize makeNum l 255 = z at *
  rw [← hb] at iS
  repeat (first | refine brT ?_ | refine brF ?_ | refine And.intro rfl ?_ | refine And.intro trivial ?_ | intro _)
  refine ⟨_, sm, fun qL => ?_⟩
  repeat (first | refine brT ?_ | refine brF ?_ | refine And.intro rfl ?_ | refine And.intro trivial ?_ | intro _)
  refine ⟨_, iS, fun qb => ?_⟩
  repeat (first | refine brT ?_ | refine brF ?_ | refine And.intro rfl ?_ | refine And.intro trivial ?_ | intro _)
  refine ⟨_, iC, fun qa => ?_⟩
  repeat (first | refine brT ?_ | refine brF ?_ | refine And.intro rfl ?_ | refine And.intro trivial ?_ | intro _)
  repeat (first | (first | refine brT ?_ | refine brF ?_ | refine And.intro rfl ?_ | refine And.intro trivial ?_ | intro _) | (refine brL ?kzz (fun _ => ?_); case kzz => (simp <;> omega)) | (refine brR ?kzz (fun _ => ?_); case kzz => (simp <;> omega)))
  refine ⟨_, iW, ?_⟩
  repeat (first | refine brT ?_ | refine brF ?_ | refine And.intro rfl ?_ | refine And.intro trivial ?_ | intro _)
  repeat (first | (first | refine brT ?_ | refine brF ?_ | refine And.intro rfl ?_ | refine And.intro trivial ?_ | intro _) | (refine brL ?kzz (fun _ => ?_); case kzz => (simp <;> omega)) | (refine brR ?kzz (fun _ => ?_); case kzz => (simp <;> omega)))
  refine ⟨_, iN, ?_⟩
  repeat (first | refine brT ?_ | refine brF ?_ | refine And.intro rfl ?_ | refine And.intro trivial ?_ | intro _)
  refine ⟨nn k, Nat.zero_le _, hkl, ?_⟩
  repeat (first | refine brT ?_ | refine brF ?_ | refine And.intro rfl ?_ | refine And.intro trivial ?_ | intro _)
  refine ⟨_, iT, fun qs => ?_⟩
  repeat (first | refine brT ?_ | refine brF ?_ | refine And.intro rfl ?_ | refine And.intro trivial ?_ | intro _)
  refine brL (by show ¬ decide (w = 2) = true; simp; omega) (fun _ => ?_)
  repeat (first | refine brT ?_ | refine brF ?_ | refine And.intro rfl ?_ | refine And.intro trivial ?_ | intro _)
  refine brL (by show ¬ decide ((eP L I : Int) > (k : Int)) = true; simp; omega) (fun _ => ?_)
  repeat (first | refine brT ?_ | refine brF ?_ | refine And.intro rfl ?_ | refine And.intro trivial ?_ | intro _)
  refine brL (by show ¬ (decide (w = 0) != decide ((eP L I : Int) = k)) = true; rw [hw2.2]; simp) (fun _ => ?_)
  repeat (first | refine brT ?_ | refine brF ?_ | refine And.intro rfl ?_ | refine And.intro trivial ?_ | intro _)
  refine loopI (fun i : Nat => ⟨166, [(0, .c (.ro 1 (l.map T.u8))), (3, .c (.own 27000 qL)), (4, .c (.own 30000 qb)), (6, .c (.own 35000 qa)), (9, .int k), (10, .c (.own 72000 qs)), (13, .int (eP L i)), (90, .c (.own 27000 qL)), (91, .int L.length), (92, .int i)],
    [(27000, .row qL 0 1 (L.map t_Chunk)), (30000, .row qb 0 1 (b.map T.u8)), (35000, .row qa 0 1 (L.map t_Chunk)), (72000, .row qs 0 1 ((L.take I).map t_Chunk))]⟩) (fun i => L.length - i) (fun i => i ≤ L.length) 0 (Nat.zero_le _) (wk rfl ⟨rfl, rfl, rfl, rfl, rfl, rfl, rfl, rfl, lenm, rfl, trivial⟩ ⟨rfl, rfl, rfl, rfl, trivial⟩) ?_
  intro i hi
  refine brD (fun h => ?_) (fun h => ?_)
  · have h : i < L.length := by simpa using h
    repeat (first | refine brT ?_ | refine brF ?_ | refine And.intro rfl ?_ | refine And.intro trivial ?_ | intro _)
    refine ⟨nn i, by rw [List.length_map]; omega, ?_⟩
    repeat (first | refine brT ?_ | refine brF ?_ | refine And.intro rfl ?_ | refine And.intro trivial ?_ | intro _)
    refine ⟨t_Chunk L[i], atm h, ?_⟩
    repeat (first | refine brT ?_ | refine brF ?_ | refine And.intro rfl ?_ | refine And.intro trivial ?_ | intro _)
    refine ⟨1, L[i].map T.u8, fl_Chunk L h, ?_⟩
    repeat (first | refine brT ?_ | refine brF ?_ | refine And.intro rfl ?_ | refine And.intro trivial ?_ | intro _)
    have e16 : w64 (w64 ((eP L i : Int) + 15) + ((L[i].map T.u8).length : Int)) = (eP L (i + 1) : Int) := by
      have e := eP_suc okl h
      have e2 := eP_small okl m5 (fun d hd => (m8 d hd).1) (i := i) (by omega)
      have e3 := (m8 _ (List.getElem_mem h)).1
      rw [List.length_map, w64_id (n := (eP L i : Int) + 15) (by omega) (by omega), w64_id (by omega) (by omega), e]; omega
    have hlt : ((i : Int)).toNat < (L.map t_Chunk).length := by rw [List.length_map]; omega
    have i0 : (0 : Int) ≤ (i : Int) := nn i
    have hB : (decide (w64 (w64 ((eP L i : Int) + 15) + ((L[i].map T.u8).length : Int)) ≤ (k : Int)) != decide ((i : Int) < (((L.take I).map t_Chunk).length : Int))) = false := by
      have hj := hIj i h
      rw [e16, List.length_map, List.length_take]
      by_cases e : i < I
      · rw [decide_eq_true (by have := hj.2 e; omega), decide_eq_true (by omega)]; rfl
      · rw [decide_eq_false (by intro h1; exact e (hj.1 (by omega))), decide_eq_false (by omega)]; rfl
    obtain ⟨U, hU⟩ := asU (m8 _ (List.getElem_mem h)).2
    have hF := fl_Chunk L h
    have hT : (L.map t_Chunk)[((i : Int)).toNat]? = some (t_Chunk L[i]) := atm h
    refine drM0 (Pl.go 0 (Pl.go 1 (Pl.go 2 (Pl.go 3 (Pl.go 6 ((Pl.go 4 ((Pl.go 5 (Pl.go 7 (Pl.go 8 (Pl.go 9 (Pl.go 10 (Pl.go 11 (Pl.go 12 (Pl.go 13 (Pl.go 14 (Pl.go 15 (Pl.go 16 (Pl.go 17 (Pl.go 18 (Pl.go 19 Pl.stop)))))))))))))).or (Pl.go 7 ((Pl.go 5 (Pl.go 8 (Pl.go 9 (Pl.go 10 (Pl.go 11 (Pl.go 12 (Pl.go 13 (Pl.go 14 (Pl.go 15 (Pl.go 16 (Pl.go 17 (Pl.go 18 (Pl.go 19 Pl.stop))))))))))))).or (Pl.go 8 (Pl.go 5 (Pl.go 9 (Pl.go 10 (Pl.go 11 (Pl.go 12 (Pl.go 13 (Pl.go 14 (Pl.go 15 (Pl.go 16 (Pl.go 17 (Pl.go 18 (Pl.go 19 Pl.stop))))))))))))))))).or (Pl.go 7 ((Pl.go 4 ((Pl.go 5 (Pl.go 8 (Pl.go 9 (Pl.go 10 (Pl.go 11 (Pl.go 12 (Pl.go 13 (Pl.go 14 (Pl.go 15 (Pl.go 16 (Pl.go 17 (Pl.go 18 (Pl.go 19 Pl.stop))))))))))))).or (Pl.go 8 (Pl.go 5 (Pl.go 9 (Pl.go 10 (Pl.go 11 (Pl.go 12 (Pl.go 13 (Pl.go 14 (Pl.go 15 (Pl.go 16 (Pl.go 17 (Pl.go 18 (Pl.go 19 Pl.stop))))))))))))))).or (Pl.go 8 (Pl.go 4 (Pl.go 5 (Pl.go 9 (Pl.go 10 (Pl.go 11 (Pl.go 12 (Pl.go 13 (Pl.go 14 (Pl.go 15 (Pl.go 16 (Pl.go 17 (Pl.go 18 (Pl.go 19 Pl.stop)))))))))))))))))))))) (fun s => s = ⟨166, [(0, .c (.ro 1 (l.map T.u8))), (3, .c (.own 27000 qL)), (4, .c (.own 30000 qb)), (6, .c (.own 35000 qa)), (9, .int k), (10, .c (.own 72000 qs)), (13, .int (eP L i)), (14, .int i), (16, .int (eP L (i + 1))), (90, .c (.own 27000 qL)), (91, .int L.length), (92, .int i), (122, .bool false)],
      [(27000, .row qL 0 1 (L.map t_Chunk)), (30000, .row qb 0 1 (b.map T.u8)), (35000, .row qa 0 1 (L.map t_Chunk)), (72000, .row qs 0 1 ((L.take I).map t_Chunk))]⟩) (by kernel_rfl) ?_ ?_
    · repeat' (first | (first | refine brT ?_ | refine brF ?_ | refine And.intro rfl ?_ | refine And.intro trivial ?_ | intro _) | refine ⟨i0, hlt, ?_⟩ | refine ⟨U, hU, ?_⟩ | refine ⟨1, L[i].map T.u8, hF, ?_⟩ | refine ⟨_, hF, ?_⟩ | refine ⟨t_Chunk L[i], hT, ?_⟩ | refine And.intro ?_ ?_ | fail)
      all_goals refine brL (by simp) (fun _ => ?_)
      all_goals repeat (first | refine brT ?_ | refine brF ?_ | refine And.intro rfl ?_ | refine And.intro trivial ?_ | intro _)
      all_goals exact ⟨_, rfl, wk rfl ⟨rfl, rfl, rfl, rfl, rfl, rfl, rfl, rfl, congrArg AV.int e16, rfl, rfl, rfl, congrArg AV.bool hB, trivial⟩ ⟨rfl, rfl, rfl, rfl, trivial⟩⟩
    rintro s rfl
    repeat (first | refine brT ?_ | refine brF ?_ | refine And.intro rfl ?_ | refine And.intro trivial ?_ | intro _)
    refine ⟨cB [], fun qn => ?_⟩
    repeat (first | refine brT ?_ | refine brF ?_ | refine And.intro rfl ?_ | refine And.intro trivial ?_ | intro _)
    refine ⟨vB, by rw [List.length_map]; show 0 + b.length ≤ bound; omega, fun qm => ?_⟩
    repeat (first | refine brT ?_ | refine brF ?_ | refine And.intro rfl ?_ | refine And.intro trivial ?_ | intro _)
    have eS := eP_suc okl h
    have eL := eP_le okl (i := i + 1) (j := L.length) h (Nat.le_refl _)
    have e20 : w64 ((eP L (i + 1) : Int) - (eP L i : Int)) = 15 + L[i].length := by rw [w64_id (by omega) (by omega)]; omega
    have iM := sn (w64 ((eP L (i + 1) : Int) - (eP L i : Int)))
    have pM := nn' (w64 ((eP L (i + 1) : Int) - (eP L i : Int))) (by rw [e20]; omega)
    generalize makeNum l (w64 ((eP L (i + 1) : Int) - (eP L i : Int))) = p at *
    obtain ⟨p, rfl⟩ : ∃ n : Nat, p = n := ⟨p.toNat, by omega⟩
    have p1 := pM.2
    rw [e20] at p1
    have e18 : w64 ((eP L i : Int) + (p : Int)) = ((eP L i + p : Nat) : Int) := by rw [w64_id (by omega) (by omega)]; omega
    refine ⟨_, iM, fun qM => ?_⟩
    repeat (first | refine brT ?_ | refine brF ?_ | refine And.intro rfl ?_ | refine And.intro trivial ?_ | intro _)
    have hpl : eP L i + p < b.length := by omega
    have hp0 : (0 : Int) ≤ ((eP L i + p : Nat) : Int) := by omega
    have hpt : (((eP L i + p : Nat) : Int)).toNat < (b.map T.u8).length := by rw [List.length_map]; omega
    have hpA : (b.map T.u8)[(((eP L i + p : Nat) : Int)).toNat]? = some (T.u8 b[eP L i + p]) := atm hpl
    rw [← e18] at hp0 hpt hpA
    have wz : IntKind.wrap .u8 (IntKind.wrap .i64 (1 + z)) = 1 + z := by
      have : IntKind.wrap .i64 (1 + z) = 1 + z := w64_id (by omega) (by omega)
      rw [this]; exact w8 (by omega) (by omega)
    obtain ⟨y, hy⟩ : ∃ y, y = Go.bits .xor .u8 b[eP L i + p] (IntKind.wrap .u8 (IntKind.wrap .i64 (1 + z))) := ⟨_, rfl⟩
    have hyn := byte_ne (bB _ (List.getElem_mem hpl)) (y := 1 + z) (by omega)
    rw [← wz, ← hy] at hyn
    have hset : (b.map T.u8).set (w64 ((eP L i : Int) + (p : Int))).toNat (T.v (.int .u8 (Go.bits .xor .u8 b[eP L i + p] (IntKind.wrap .u8 (IntKind.wrap .i64 (1 + z)))))) = (b.set (eP L i + p) y).map T.u8 := by
      rw [← hy, e18, Int.toNat_natCast, List.map_set]; rfl
    have sB : isB (b.set (eP L i + p) y) := isB_set bB _ hyn.2.1 hyn.2.2
    have iX := i_Scan (b.set (eP L i + p) y) sB (by rw [List.length_set]; exact bb)
    have eX : scan (b.set (eP L i + p) y) = (L.take i, (eP L i : Int), 2) := by
      subst hb
      exact bent_at okl h (by omega) (by omega) hpl hyn.1 hyn.2.1 hyn.2.2
    rw [eX] at iX
    refine drM0 (Pl.go 0 (Pl.go 1 (Pl.go 2 (Pl.go 3 (Pl.go 4 (Pl.go 6 ((Pl.go 5 (Pl.go 7 (Pl.go 8 (Pl.go 9 (Pl.go 10 (Pl.go 11 (Pl.go 12 Pl.stop))))))).or (Pl.go 7 (Pl.go 8 ((Pl.go 5 (Pl.go 9 (Pl.go 10 (Pl.go 11 (Pl.go 12 Pl.stop))))).or (Pl.go 9 (Pl.go 5 (Pl.go 10 (Pl.go 11 (Pl.go 12 Pl.stop))))))))))))))) (fun s => ∃ V, s = ⟨166, [(0, .c (.ro 1 (l.map T.u8))), (3, .c (.own 27000 qL)), (4, .c (.own 30000 qb)), (6, .c (.own 35000 qa)), (9, .int k), (10, .c (.own 72000 qs)), (13, .int (eP L i)), (14, .int i), (16, .int (eP L (i + 1))), (17, .c (.own 124000 qm)), (90, .c (.own 27000 qL)), (91, .int L.length), (92, .int i)],
      [(27000, .row qL 0 1 (L.map t_Chunk)), (30000, .row qb 0 1 (b.map T.u8)), (35000, .row qa 0 1 (L.map t_Chunk)), (72000, .row qs 0 1 ((L.take I).map t_Chunk)), (124000, .row qm V 1 ((b.set (eP L i + p) y).map T.u8))]⟩) (by kernel_rfl) ?_ ?_
    · repeat' (first | (first | refine brT ?_ | refine brF ?_ | refine And.intro rfl ?_ | refine And.intro trivial ?_ | intro _) | refine ⟨_, s255, fun qz => ?_⟩ | refine ⟨hp0, hpt, ?_⟩ | refine ⟨_, hpA, Nat.le_refl _, fun V => ?_⟩ | refine ⟨_, hpA, ?_⟩ | refine And.intro ?_ ?_ | fail)
      all_goals exact ⟨_, ⟨_, rfl⟩, wk rfl ⟨rfl, rfl, rfl, rfl, rfl, rfl, rfl, rfl, rfl, rfl, rfl, rfl, rfl, trivial⟩ ⟨rfl, rfl, rfl, rfl, congrArg (fun zz => some (Ob.row qm _ 1 zz)) hset, trivial⟩⟩
    rintro s ⟨V, rfl⟩
    repeat (first | refine brT ?_ | refine brF ?_ | refine And.intro rfl ?_ | refine And.intro trivial ?_ | intro _)
    refine ⟨_, iX, fun qx => ?_⟩
    repeat (first | refine brT ?_ | refine brF ?_ | refine And.intro rfl ?_ | refine And.intro trivial ?_ | intro _)
    repeat (first | (first | refine brT ?_ | refine brF ?_ | refine And.intro rfl ?_ | refine And.intro trivial ?_ | intro _) | (refine brL ?kzz (fun _ => ?_); case kzz => (simp <;> omega)) | (refine brR ?kzz (fun _ => ?_); case kzz => (simp <;> omega)))
    exact nxt (i + 1) h (by show L.length - (i + 1) < L.length - i; omega) (wk rfl ⟨rfl, rfl, rfl, rfl, rfl, rfl, rfl, rfl, rfl, up1 h (by omega), trivial⟩ ⟨rfl, rfl, rfl, rfl, trivial⟩)
  · exact tb rfl


end Go.Proofs.Ytadpancnhinlbaa.E
