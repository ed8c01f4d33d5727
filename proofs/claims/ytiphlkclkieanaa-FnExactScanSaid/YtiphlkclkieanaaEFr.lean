/- Contracts of functions of this seat's program. -/
import Derived.Test.YtiphlkclkieanaaETy
import Derived.Test.YtiphlkclkieanaaEPu
namespace Go.Proofs.Ytiphlkclkieanaa.E
set_option linter.unusedVariables false
set_option maxHeartbeats 1600000
theorem getF_take {l : List Int} {i : Nat} (h : i < l.length) (n : Int) : getF n (l.take (i + 1)) = 256 * getF n (l.take i) + l[i] := by
  rw [List.take_succ_eq_append_getElem h, getF_app]
theorem s_l02Get (b : List Int) (a n : Nat) (hb : isB b) (hl : b.length ≤ bound) (hn : n ≤ 4) (h : a + n ≤ b.length) : Spec Try.prog 37 [.ro (.sl 1 (b.map T.u8)), .ro (T.int a), .ro (T.int n)] [T.int (getF 0 ((b.drop a).take n))] := by
  have hl' : b.length ≤ 16777216 := hl
  have hbd : isB (b.drop a) := fun x hx => hb x (List.mem_of_mem_drop hx)
  refine fn Try.func37 ?_
  repeat (first | refine brT ?_ | refine brF ?_ | refine And.intro rfl ?_ | refine And.intro trivial ?_ | intro _)
  refine loopR (fun i => ⟨26, [(0, .c (.ro 1 (b.map T.u8))), (1, .int a), (2, .int n), (7, .int (getF 0 ((b.drop a).take i))), (8, .int ((a + i : Nat) : Int))], []⟩) n (fun _ => True) trivial (wk rfl ⟨rfl, rfl, rfl, rfl, rfl, trivial⟩ trivial) ?_
  intro i hi _
  have hw : w64 ((a : Int) + n) = (a : Int) + n := w64_id (by omega) (by omega)
  have hg := getF_in (isB_take hbd i) (n := 0) (by decide) (k := 4) (by rw [List.length_take]; omega)
  refine brD (fun h1 => ?_) (fun h1 => ?_)
  · have h1 : i < n := by have h1 : ((a + i : Nat) : Int) < w64 ((a : Int) + n) := h1; rw [hw] at h1; omega
    have hlt : a + i < b.length := by omega
    have hlt2 : i < (b.drop a).length := by rw [List.length_drop]; omega
    have hs := getF_take hlt2 0
    have he : (b.drop a)[i] = b[a + i] := List.getElem_drop ..
    obtain ⟨x0, x1⟩ := hb _ (List.getElem_mem hlt)
    rw [he] at hs
    repeat (first | refine brT ?_ | refine brF ?_ | refine And.intro rfl ?_ | refine And.intro trivial ?_ | intro _)
    refine ⟨by show (0 : Int) ≤ ((a + i : Nat) : Int); omega, T.u8 b[a + i], atm hlt, ?_⟩
    repeat (first | refine brT ?_ | refine brF ?_ | refine And.intro rfl ?_ | refine And.intro trivial ?_ | intro _)
    generalize b[a + i] = x at hs x0 x1
    generalize getF 0 ((b.drop a).take i) = g at hs hg
    have hg2 := hg.2
    have e1 : w64 (g * 256) = g * 256 := w64_id (by omega) (by omega)
    have e2 : w64 x = x := w64_id (by omega) (by omega)
    exact nxtR h1 trivial (wk rfl ⟨rfl, rfl, rfl, gi rfl (by show w64 (w64 (g * 256) + w64 x) = _; rw [hs, e1, e2, w64_id (by omega) (by omega)]; omega), gi rfl (by show w64 (((a + i : Nat) : Int) + 1) = _; rw [w64_id (by omega) (by omega)]; omega), trivial⟩ trivial)
  · have : i = n := by have h1 : ¬ ((a + i : Nat) : Int) < w64 ((a : Int) + n) := h1; rw [hw] at h1; omega
    subst this
    repeat (first | refine brT ?_ | refine brF ?_ | refine And.intro rfl ?_ | refine And.intro trivial ?_ | intro _)
    exact rfl
theorem i_getBytes (b : List Int) (es : List T) (he : es = b.map T.u8) (hb : isB b) (hl : b.length ≤ 4) : Spec Try.prog 38 [.ro (.sl 1 es)] [T.int (getF 0 b)] := by
  subst he
  refine fn Try.func38 ?_
  repeat (first | refine brT ?_ | refine brF ?_ | refine And.intro rfl ?_ | refine And.intro trivial ?_ | intro _)
  refine loopR (fun i => ⟨19, [(3, .int (getF 0 (b.take i))), (6, .c (.ro 1 (b.map T.u8))), (7, .int b.length), (8, .int i)], []⟩) b.length (fun _ => True) trivial (wk rfl ⟨rfl, rfl, lenm, rfl, trivial⟩ trivial) ?_
  intro i hi _
  have hg := getF_in (isB_take hb i) (n := 0) (by decide) (k := 4) (by rw [List.length_take]; omega)
  refine brD (fun h1 => ?_) (fun h1 => ?_)
  · have h1 : i < b.length := by simpa using h1
    have hs := getF_take h1 0
    obtain ⟨x0, x1⟩ := hb _ (List.getElem_mem h1)
    refine ⟨nn i, T.u8 b[i], atm h1, ?_⟩
    repeat (first | refine brT ?_ | refine brF ?_ | refine And.intro rfl ?_ | refine And.intro trivial ?_ | intro _)
    generalize b[i] = x at hs x0 x1
    generalize getF 0 (b.take i) = g at hs hg
    have hg2 := hg.2
    have e1 : w64 (256 * g) = 256 * g := w64_id (by omega) (by omega)
    have e2 : w64 x = x := w64_id (by omega) (by omega)
    exact nxtR h1 trivial (wk rfl ⟨gi rfl (by show w64 (w64 (256 * g) + w64 x) = _; rw [hs, e1, e2, w64_id (by omega) (by omega)]), rfl, rfl, up1 h1 (by omega), trivial⟩ trivial)
  · have : i = b.length := by omega
    subst this
    repeat (first | refine brT ?_ | refine brF ?_ | refine And.intro rfl ?_ | refine And.intro trivial ?_ | intro _)
    exact ti (by rw [List.take_length])
theorem s_Crc' (l : List Int) (es : List T) (he : es = l.map T.u8) (hb : isB l) (hl : l.length ≤ bound) : Spec Try.prog 34 [.ro (.sl 1 es)] [T.int (crcOf l)] := by subst he; exact s_Crc l hb hl
theorem i_Crc' (l : List Int) (es : List T) (he : es = l.map T.u8) (hb : isB l) (hl : l.length ≤ bound) : Spec Try.prog 36 [.ro (.sl 1 es)] [T.int (crcOf l)] := by subst he; exact i_Crc l hb hl
theorem i_CloneB (l : List Int) (es : List T) (he : es = l.map T.u8) (hl : l.length ≤ bound) : Spec Try.prog 39 [.ro (.sl 1 es)] [.sl 1 es] := by
  subst he
  refine fn Try.func39 ?_
  intro b hb
  refine brI (fun h => ?_) (fun h => ?_)
  · have : l = [] := by
      cases l with
      | nil => rfl
      | cons a r => have := hb (by simp); rw [h] at this; cases this
    subst this
    exact ⟨1, rfl⟩
  · refine ⟨fun t h => (by cases h), fun q0 => ?_⟩
    repeat (first | refine brT ?_ | refine brF ?_ | refine And.intro rfl ?_ | refine And.intro trivial ?_ | intro _)
    refine ⟨vB, by simp; exact hl, fun q => ?_⟩
    repeat (first | refine brT ?_ | refine brF ?_ | refine And.intro rfl ?_ | refine And.intro trivial ?_ | intro _)
    rfl
def fSeq (f : List Int) : Int := getF 0 ((f.drop 1).take 3)
def fCnt (f : List Int) : Int := getF 0 ((f.drop 4).take 3)
def fHead (f : List Int) : Int := getF 0 ((f.drop 7).take 4)
def fSum (f : List Int) : Int := getF 0 ((f.drop 11).take 4)
def fFirst (f : List Int) : Int := match f with
  | x :: _ => x
  | [] => 0
def fBad (f : List Int) : Bool := fFirst f != 82 || fHead f != crcOf (f.take 7) || decide (fSeq f > 100000) || decide (fCnt f > 4000)
def fData (f : List Int) : List Int := (f.drop 15).take (fCnt f).toNat
def frameRead (b : List Int) (a : Int) : Int × List Int × Int × Int :=
  if a < 0 ∨ a > b.length then (0, [], 0, 1)
  else if (b.drop a.toNat).length < 11 then (0, [], 0, 2)
  else if fBad (b.drop a.toNat) = true then (0, [], 0, 3)
  else if ((b.drop a.toNat).length : Int) < 15 + fCnt (b.drop a.toNat) then (0, [], 0, 4)
  else if fSum (b.drop a.toNat) ≠ crcOf (fData (b.drop a.toNat)) then (0, [], 0, 5)
  else (fSeq (b.drop a.toNat), fData (b.drop a.toNat), a + 15 + fCnt (b.drop a.toNat), 0)
theorem fCnt_in {f : List Int} (h : isB f) : 0 ≤ fCnt f ∧ fCnt f < 16777216 := by
  have := getF_in (l := (f.drop 4).take 3) (fun x hx => h x (List.mem_of_mem_drop (List.mem_of_mem_take hx))) (n := 0) (by decide) (k := 3) (by rw [List.length_take]; omega)
  exact ⟨this.1, by have := this.2; unfold fCnt; omega⟩
theorem first_at {f : List Int} (h : 0 < f.length) : fFirst f = f[0] := by
  cases f with
  | nil => simp at h
  | cons x r => rfl
theorem sl_u8 {f : List Int} {a b : Nat} : ((f.map T.u8).take b).drop a = ((f.drop a).take (b - a)).map T.u8 := by rw [List.drop_take, List.map_take, List.map_drop]
theorem tk_u8 {f : List Int} {b : Nat} : ((f.map T.u8).take b).drop 0 = (f.take b).map T.u8 := by rw [List.drop_zero, List.map_take]
theorem isB_sub {f : List Int} (h : isB f) (a b : Nat) : isB ((f.drop a).take b) := fun x hx => h x (List.mem_of_mem_drop (List.mem_of_mem_take hx))
theorem sub_len {f : List Int} (a b : Nat) : ((f.drop a).take b).length ≤ b := by rw [List.length_take]; omega
theorem i_FrameRead (b : List Int) (a : Int) (hb : isB b) (hl : b.length ≤ bound) : Spec Try.prog 28 [.ro (.sl 1 (b.map T.u8)), .ro (T.int a)] [T.int (frameRead b a).1, .sl 1 ((frameRead b a).2.1.map T.u8), T.int (frameRead b a).2.2.1, T.int (frameRead b a).2.2.2] := by
  have hl' : b.length ≤ 16777216 := hl
  refine fn Try.func28 ?_
  by_cases h0 : a < 0 ∨ a > b.length
  · have e : frameRead b a = (0, [], 0, 1) := if_pos h0
    rw [e]
    repeat' (first | (first | refine brT ?_ | refine brF ?_ | refine And.intro rfl ?_ | refine And.intro trivial ?_ | intro _) | refine brI (fun _ => ?_) (fun _ => ?_))
    all_goals first
      | (exfalso; simp_all; omega)
      | exact ⟨1, rfl⟩
  unfold frameRead
  rw [if_neg h0]
  obtain ⟨n, rfl⟩ : ∃ n : Nat, a = n := ⟨a.toNat, by omega⟩
  have hn : n ≤ b.length := by omega
  have e0 : ((n : Int)).toNat = n := by omega
  rw [e0]
  have hf : isB (b.drop n) := fun x hx => hb x (List.mem_of_mem_drop hx)
  have hfl : (b.drop n).length = b.length - n := List.length_drop ..
  repeat (first | (first | refine brT ?_ | refine brF ?_ | refine And.intro rfl ?_ | refine And.intro trivial ?_ | intro _) | (refine brL ?a (fun _ => ?_); case a => (simp <;> omega)))
  refine ⟨nn n, by simp; omega, Nat.le_refl _, ?_⟩
  have e1 : ((b.map T.u8).take (b.map T.u8).length).drop ((n : Int)).toNat = (b.drop n).map T.u8 := by rw [List.take_length, List.map_drop]; rfl
  repeat (first | refine brT ?_ | refine brF ?_ | refine And.intro rfl ?_ | refine And.intro trivial ?_ | intro _)
  rw [e1]
  generalize b.drop n = f at hf hfl
  have hfb : f.length ≤ 16777216 := by omega
  by_cases h1 : f.length < 11
  · rw [if_pos h1]
    repeat (first | (first | refine brT ?_ | refine brF ?_ | refine And.intro rfl ?_ | refine And.intro trivial ?_ | intro _) | (refine brR ?a (fun _ => ?_); case a => (simp <;> omega)))
    exact ⟨1, rfl⟩
  rw [if_neg h1]
  have l15 := fCnt_in hf
  have q4 : 4 ≤ (f.map T.u8).length := by simp; omega
  have q7 : 7 ≤ (f.map T.u8).length := by simp; omega
  have q11 : 11 ≤ (f.map T.u8).length := by simp; omega
  have d1 : (0 : Int) ≤ 1 := by decide
  have d4 : (0 : Int) ≤ 4 := by decide
  have d7 : (0 : Int) ≤ 7 := by decide
  have d11 : (0 : Int) ≤ 11 := by decide
  have d15 : (0 : Int) ≤ 15 := by decide
  have n14 : (1 : Nat) ≤ 4 := by decide
  have n47 : (4 : Nat) ≤ 7 := by decide
  have n711 : (7 : Nat) ≤ 11 := by decide
  have hat : (f.map T.u8)[(0 : Int).toNat]? = some (T.u8 (fFirst f)) := by rw [first_at (show 0 < f.length by omega)]; exact atm (i := 0) (by omega)
  have cs := i_getBytes ((f.drop 1).take 3) _ (sl_u8 (a := 1) (b := 4)) (isB_sub hf _ _) (Nat.le_trans (sub_len _ _) (by decide))
  have cc := i_getBytes ((f.drop 4).take 3) _ (sl_u8 (a := 4) (b := 7)) (isB_sub hf _ _) (Nat.le_trans (sub_len _ _) (by decide))
  have ch := i_getBytes ((f.drop 7).take 4) _ (sl_u8 (a := 7) (b := 11)) (isB_sub hf _ _) (Nat.le_trans (sub_len _ _) (by decide))
  have cu := i_getBytes ((f.drop 11).take 4) _ (sl_u8 (a := 11) (b := 15)) (isB_sub hf _ _) (Nat.le_trans (sub_len _ _) (by decide))
  have c7 := i_Crc' (f.take 7) _ (tk_u8 (b := 7)) (isB_take hf _) (by rw [List.length_take]; unfold bound; omega)
  repeat (first | (first | refine brT ?_ | refine brF ?_ | refine And.intro rfl ?_ | refine And.intro trivial ?_ | intro _) | (refine brL ?a (fun _ => ?_); case a => (simp <;> omega)))
  refine ⟨d1, d4, n14, q4, ?_⟩
  repeat (first | refine brT ?_ | refine brF ?_ | refine And.intro rfl ?_ | refine And.intro trivial ?_ | intro _)
  refine ⟨_, cs, ?_⟩
  repeat (first | refine brT ?_ | refine brF ?_ | refine And.intro rfl ?_ | refine And.intro trivial ?_ | intro _)
  refine ⟨d4, d7, n47, q7, ?_⟩
  repeat (first | refine brT ?_ | refine brF ?_ | refine And.intro rfl ?_ | refine And.intro trivial ?_ | intro _)
  refine ⟨_, cc, ?_⟩
  repeat (first | refine brT ?_ | refine brF ?_ | refine And.intro rfl ?_ | refine And.intro trivial ?_ | intro _)
  refine drM (Pl.go 0 (Pl.go 1 (Pl.go 2 (Pl.go 3 (Pl.go 4 (Pl.go 5 (Pl.go 8 ((Pl.go 6 ((Pl.go 7 (Pl.go 9 (Pl.go 10 (Pl.go 11 (Pl.go 12 (Pl.go 13 (Pl.go 14 (Pl.go 15 (Pl.go 16 (Pl.go 17 (Pl.go 18 (Pl.go 19 (Pl.go 20 Pl.stop))))))))))))).or (Pl.go 9 (Pl.go 7 (Pl.go 10 (Pl.go 11 (Pl.go 12 (Pl.go 13 (Pl.go 14 (Pl.go 15 (Pl.go 16 (Pl.go 17 (Pl.go 18 (Pl.go 19 (Pl.go 20 Pl.stop))))))))))))))).or (Pl.go 9 (Pl.go 6 (Pl.go 7 (Pl.go 10 (Pl.go 11 (Pl.go 12 (Pl.go 13 (Pl.go 14 (Pl.go 15 (Pl.go 16 (Pl.go 17 (Pl.go 18 (Pl.go 19 (Pl.go 20 Pl.stop)))))))))))))))))))))) (fun m => ∃ c : Bool, c = fBad f ∧ m = ⟨75, [(1, .int n), (8, .c (.ro 1 (f.map T.u8))), (9, .int (fSeq f)), (10, .int (fCnt f)), (52, .bool c)], []⟩) (by kernel_rfl) ?_ ?_
  · repeat' (first | (first | refine brT ?_ | refine brF ?_ | refine And.intro rfl ?_ | refine And.intro trivial ?_ | intro _) | refine ⟨Int.le_refl _, T.u8 (fFirst f), hat, ?_⟩ | refine ⟨d7, d11, n711, q11, ?_⟩ | refine ⟨d7, Nat.zero_le _, q7, ?_⟩ | refine ⟨_, ch, ?_⟩ | refine ⟨_, c7, ?_⟩ | refine brI (fun _ => ?_) (fun _ => ?_) | refine And.intro ?_ ?_)
    all_goals refine ⟨_, ⟨_, ?_, rfl⟩, wk rfl ⟨rfl, rfl, rfl, rfl, rfl, trivial⟩ trivial⟩
    all_goals (clear cs cc ch cu c7 hat; simp only [fBad, fSeq, fCnt, fHead] at *; simp_all <;> (intros; omega))
  rintro m ⟨c, rfl, rfl⟩
  refine brI (fun h2 => ?_) (fun h2 => ?_)
  · rw [if_pos h2]
    repeat (first | refine brT ?_ | refine brF ?_ | refine And.intro rfl ?_ | refine And.intro trivial ?_ | intro _)
    exact ⟨1, rfl⟩
  rw [if_neg (by simp [h2])]
  have ew : w64 (15 + fCnt f) = 15 + fCnt f := w64_id (by omega) (by omega)
  by_cases h3 : (f.length : Int) < 15 + fCnt f
  · rw [if_pos h3]
    repeat (first | refine brT ?_ | refine brF ?_ | refine And.intro rfl ?_ | refine And.intro trivial ?_ | intro _)
    refine brR (by show ¬ decide (((f.map T.u8).length : Int) < w64 (15 + fCnt f)) = false; rw [ew, List.length_map]; simpa using h3) (fun _ => ?_)
    repeat (first | refine brT ?_ | refine brF ?_ | refine And.intro rfl ?_ | refine And.intro trivial ?_ | intro _)
    exact ⟨1, rfl⟩
  rw [if_neg h3]
  repeat (first | refine brT ?_ | refine brF ?_ | refine And.intro rfl ?_ | refine And.intro trivial ?_ | intro _)
  refine brL (by show ¬ decide (((f.map T.u8).length : Int) < w64 (15 + fCnt f)) = true; rw [ew, List.length_map]; simpa using h3) (fun _ => ?_)
  repeat (first | refine brT ?_ | refine brF ?_ | refine And.intro rfl ?_ | refine And.intro trivial ?_ | intro _)
  have em : (w64 (15 + fCnt f)).toNat = 15 + (fCnt f).toNat := by rw [ew]; omega
  refine ⟨d15, by show (0 : Int) ≤ w64 (15 + fCnt f); rw [ew]; omega, by show 15 ≤ (w64 (15 + fCnt f)).toNat; rw [em]; omega, by show (w64 (15 + fCnt f)).toNat ≤ (f.map T.u8).length; rw [em, List.length_map]; omega, ?_⟩
  have e2 : ((f.map T.u8).take (w64 (15 + fCnt f)).toNat).drop (15 : Int).toNat = (fData f).map T.u8 := by
    rw [em, show (15 : Int).toNat = 15 from rfl, sl_u8, show 15 + (fCnt f).toNat - 15 = (fCnt f).toNat by omega]; rfl
  have hdl : (fData f).length ≤ bound := by unfold fData; rw [List.length_take, List.length_drop]; unfold bound; omega
  have cd := i_Crc' (fData f) _ rfl (isB_sub hf _ _) hdl
  have cl := i_CloneB (fData f) _ rfl hdl
  have n1115 : (11 : Nat) ≤ 15 := by decide
  have q15 : 15 ≤ (f.map T.u8).length := by simp; omega
  repeat (first | refine brT ?_ | refine brF ?_ | refine And.intro rfl ?_ | refine And.intro trivial ?_ | intro _)
  rw [e2]
  refine ⟨d11, d15, n1115, q15, ?_⟩
  repeat (first | refine brT ?_ | refine brF ?_ | refine And.intro rfl ?_ | refine And.intro trivial ?_ | intro _)
  refine ⟨_, cu, ?_⟩
  repeat (first | refine brT ?_ | refine brF ?_ | refine And.intro rfl ?_ | refine And.intro trivial ?_ | intro _)
  refine ⟨_, cd, ?_⟩
  repeat (first | refine brT ?_ | refine brF ?_ | refine And.intro rfl ?_ | refine And.intro trivial ?_ | intro _)
  by_cases h4 : fSum f = crcOf (fData f)
  · rw [if_neg (by simpa using h4)]
    refine brL (by show ¬ (fSum f != crcOf (fData f)) = true; simpa using h4) (fun _ => ?_)
    repeat (first | refine brT ?_ | refine brF ?_ | refine And.intro rfl ?_ | refine And.intro trivial ?_ | intro _)
    refine ⟨_, cl, ?_⟩
    repeat (first | refine brT ?_ | refine brF ?_ | refine And.intro rfl ?_ | refine And.intro trivial ?_ | intro _)
    have ez : w64 (w64 ((n : Int) + 15) + fCnt f) = (n : Int) + 15 + fCnt f := by rw [w64_id (n := (n : Int) + 15) (by omega) (by omega), w64_id (by omega) (by omega)]
    exact congrArg (fun z => [T.int (fSeq f), T.sl 1 ((fData f).map T.u8), T.int z, T.int 0]) ez
  · rw [if_pos (by simpa using h4)]
    refine brR (by show ¬ (fSum f != crcOf (fData f)) = false; simpa using h4) (fun _ => ?_)
    repeat (first | refine brT ?_ | refine brF ?_ | refine And.intro rfl ?_ | refine And.intro trivial ?_ | intro _)
    exact ⟨1, rfl⟩


end Go.Proofs.Ytiphlkclkieanaa.E
