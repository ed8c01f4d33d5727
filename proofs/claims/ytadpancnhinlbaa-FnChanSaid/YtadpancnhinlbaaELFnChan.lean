/- Contracts of functions of this seat's program. -/
import Derived.Test.YtadpancnhinlbaaETy
import Derived.Test.YtadpancnhinlbaaELc
namespace Go.Proofs.Ytadpancnhinlbaa.E
set_option linter.unusedVariables false
set_option linter.unusedSimpArgs false
set_option maxHeartbeats 1600000
set_option maxRecDepth 20000 in
set_option maxHeartbeats 32000000 in
theorem l_FnChan (l : List Int) : Spec Try.prog 4 [.ro (.sl 1 (l.map T.u8))] [T.bool true] := by
  refine fn Try.func4 ?_
  repeat (first | refine brT ?_ | refine brF ?_ | refine And.intro rfl ?_ | refine And.intro trivial ?_ | intro _)
  refine brI (fun h => ?_) (fun h => ?_)
  · exact tb rfl
  have hl : l.length ≤ bound := by
    have h' := of_decide_eq_false h
    rw [List.length_map] at h'
    unfold bound; omega
  obtain ⟨hc, n1, n2, n3⟩ := makeC_in l hl
  have sm := s_MakeChan l hl
  generalize makeC l = x at *
  obtain ⟨c, b, s, r, d⟩ := x
  simp only at hc n1 n2 n3
  have hbb : b.length ≤ bound := by unfold bound; omega
  have hss : s.length ≤ bound := by unfold bound; omega
  have hrr : r.length ≤ bound := by unfold bound; omega
  have hx : ok_Chan (c, b, s, r, d) := ⟨hbb, ⟨hss, fun _ _ => trivial⟩, ⟨hrr, fun _ _ => trivial⟩⟩
  have hb1 : b.length + 1 ≤ bound := by unfold bound; omega
  have sS := s_SendTo (c, b, s, r, d) 7 hx hb1
  have iS := i_SendTo (c, b, s, r, d) 7 hx hb1
  have oS := ok_sendTo (v := 7) hx hb1
  have iR := i_RecvFrom (c, b, s, r, d) hx hb1
  have oR := ok_recvFrom hx hb1
  have iK := i_CloseIt (c, b, s, r, d) hx
  have oK := (ok_closeIt hx).1
  have cS := i_CanSend c b s r d hbb hss hrr
  have cR := i_CanRecv c b s r d hbb hss hrr
  have sI := s_sameInts b hbb
  have v7 : isV 7 = true := rfl
  have hco := chOk_out hc
  obtain ⟨g1, g2, g3, g4, g5, g6, g7, g8⟩ := id hco
  cases d with
  | true =>
    have hs0 : s = [] := g7.resolve_right (fun e => by cases e.2.2)
    have hr0 : r = [] := g8.resolve_right (fun e => by cases e.2)
    subst hs0 hr0
    have eS : sendTo (c, b, [], [], true) 7 = (zC, zW, 2) := by simp [sendTo, hc, v7]
    have eK : closeIt (c, b, [], [], true) = (zC, [], [], 2) := by simp [closeIt, hc]
    have fS : canS c b [] [] true = true := by simp [canS, hc]
    have fR : canR c b [] [] true = true := by simp [canR, hc]
    rw [eS] at sS iS
    rw [eK] at iK
    rw [fS] at cS
    rw [fR] at cR
    cases b with
    | nil =>
      have eR : recvFrom (c, [], [], [], true) = ((c, [], [], [], true), 0, false, (-1, 0, 0), 0) := by simp [recvFrom, hc, fR]
      rw [eR] at iR oR
      have k2 := i_okX oR hc
      repeat' (first | (first | refine brT ?_ | refine brF ?_ | refine And.intro rfl ?_ | refine And.intro trivial ?_ | intro _) | (refine brL ?kzz (fun _ => ?_); case kzz => (simp <;> omega)) | (refine brR ?kzz (fun _ => ?_); case kzz => (simp <;> omega)) | refine ⟨_, sm, ?_⟩ | refine ⟨_, iS, ?_⟩ | refine ⟨_, sS, ?_⟩ | refine ⟨_, cS, ?_⟩ | refine ⟨_, iR, ?_⟩ | refine ⟨_, cR, ?_⟩ | refine ⟨_, iK, ?_⟩ | refine ⟨_, k2, ?_⟩ | refine ⟨_, sI, ?_⟩ | fail)
      all_goals exact tb rfl
    | cons v b =>
      have eR : recvFrom (c, v :: b, [], [], true) = ((c, b, [], [], true), v, true, (-1, 0, 0), 0) := by simp [recvFrom, hc, fR]
      rw [eR] at iR oR
      have k2 := i_okX oR (chOk_in ⟨g1, g2, by simp only [List.length_cons] at g3; simp only; omega, rfl, rfl, by simp only [List.all_cons, Bool.and_eq_true] at g6; exact g6.2, .inl rfl, .inl rfl⟩)
      have hi : (0 : Int) ≤ 0 ∧ (0 : Int).toNat < ((v :: b).map T.int).length := ⟨Int.le_refl _, by simp⟩
      repeat' (first | (first | refine brT ?_ | refine brF ?_ | refine And.intro rfl ?_ | refine And.intro trivial ?_ | intro _) | (refine brL ?kzz (fun _ => ?_); case kzz => (simp <;> omega)) | (refine brR ?kzz (fun _ => ?_); case kzz => (simp <;> omega)) | refine ⟨_, sm, ?_⟩ | refine ⟨_, iS, ?_⟩ | refine ⟨_, sS, ?_⟩ | refine ⟨_, cS, ?_⟩ | refine ⟨_, iR, ?_⟩ | refine ⟨_, cR, ?_⟩ | refine ⟨_, iK, ?_⟩ | refine ⟨_, k2, ?_⟩ | refine ⟨hi.1, hi.2, ?_⟩ | refine ⟨T.int v, rfl, ?_⟩ | refine ⟨_, sI, ?_⟩ | fail)
      all_goals exact tb rfl
  | false =>
    have eK : closeIt (c, b, s, r, false) = ((c, b, [], [], true), r, s, 0) := by simp [closeIt, hc]
    rw [eK] at iK oK
    have k3 := i_okX oK (chOk_in ⟨g1, g2, g3, rfl, rfl, g6, .inl rfl, .inl rfl⟩)
    cases r with
    | cons w r =>
      have hb0 : b = [] := (g8.resolve_left (by simp)).1
      have hs0 : s = [] := g7.resolve_right (fun e => by cases e.2.1)
      subst hb0 hs0
      have fS : canS c [] [] (w :: r) false = true := by simp [canS, hc]
      have fR : canR c [] [] (w :: r) false = false := by simp [canR]
      have eS : sendTo (c, [], [], w :: r, false) 7 = ((c, [], [], r, false), w, 0) := by simp [sendTo, hc, v7, fS]
      have eR : recvFrom (c, [], [], w :: r, false) = (zC, 0, false, zW, 3) := by simp [recvFrom, hc, fR]
      have hw : 0 ≤ w.1 := by
        simp only [List.all_cons, Bool.and_eq_true, wOkP, wOk, decide_eq_true_eq] at g5
        exact g5.1.1.1.1
      rw [eS] at sS iS oS
      rw [eR] at iR
      rw [fS] at cS
      rw [fR] at cR
      have k1 := i_okX oS (chOk_in ⟨g1, g2, g3, rfl, by simp only [List.all_cons, Bool.and_eq_true] at g5; exact g5.2, rfl, .inl rfl, .inr ⟨rfl, rfl⟩⟩)
      repeat' (first | (first | refine brT ?_ | refine brF ?_ | refine And.intro rfl ?_ | refine And.intro trivial ?_ | intro _) | (refine brL ?kzz (fun _ => ?_); case kzz => (simp <;> omega)) | (refine brR ?kzz (fun _ => ?_); case kzz => (simp <;> omega)) | refine ⟨_, sm, ?_⟩ | refine ⟨_, iS, ?_⟩ | refine ⟨_, sS, ?_⟩ | refine ⟨_, cS, ?_⟩ | refine ⟨_, iR, ?_⟩ | refine ⟨_, cR, ?_⟩ | refine ⟨_, iK, ?_⟩ | refine ⟨_, k1, ?_⟩ | refine ⟨_, k3, ?_⟩ | refine ⟨_, sI, ?_⟩ | fail)
      all_goals exact tb rfl
    | nil =>
      by_cases hn : (b.length : Int) < c
      · have hs0 : s = [] := g7.resolve_right (fun e => by omega)
        subst hs0
        have fS : canS c b [] [] false = true := by simp [canS, hc, hn]
        have eS : sendTo (c, b, [], [], false) 7 = ((c, b ++ [7], [], [], false), (-1, 0, 0), 0) := by simp [sendTo, hc, v7, fS]
        rw [eS] at sS iS oS
        rw [fS] at cS
        have k1 := i_okX oS (chOk_in ⟨g1, g2, by simp; omega, rfl, rfl, by simp only [List.all_append, g6]; rfl, .inl rfl, .inl rfl⟩)
        have hl7 : (((b ++ [7]).map T.int).length : Int) = b.length + 1 := by simp
        have hw7 : w64 ((((b ++ [7]).map T.int).length : Int) - 1) = b.length := by rw [hl7, w64_id (by omega) (by omega)]; omega
        have jz : (List.map T.int ((c, b ++ [7], ([] : List Y_Waiter), ([] : List Y_Waiter), false), ((-1, 0, 0) : Y_Waiter), (0 : Int)).fst.snd.fst) = (b ++ [7]).map T.int := rfl
        have j1 : 0 ≤ IntKind.i64.wrap (((List.map T.int ((c, b ++ [7], ([] : List Y_Waiter), ([] : List Y_Waiter), false), ((-1, 0, 0) : Y_Waiter), (0 : Int)).fst.snd.fst).length : Int) - 1) ∧ (IntKind.i64.wrap (((List.map T.int ((c, b ++ [7], ([] : List Y_Waiter), ([] : List Y_Waiter), false), ((-1, 0, 0) : Y_Waiter), (0 : Int)).fst.snd.fst).length : Int) - 1)).toNat < (List.map T.int ((c, b ++ [7], ([] : List Y_Waiter), ([] : List Y_Waiter), false), ((-1, 0, 0) : Y_Waiter), (0 : Int)).fst.snd.fst).length := by rw [jz]; show 0 ≤ w64 _ ∧ (w64 _).toNat < _; rw [hw7]; simp
        have j2 : (List.map T.int ((c, b ++ [7], ([] : List Y_Waiter), ([] : List Y_Waiter), false), ((-1, 0, 0) : Y_Waiter), (0 : Int)).fst.snd.fst)[(IntKind.i64.wrap (((List.map T.int ((c, b ++ [7], ([] : List Y_Waiter), ([] : List Y_Waiter), false), ((-1, 0, 0) : Y_Waiter), (0 : Int)).fst.snd.fst).length : Int) - 1)).toNat]? = some (T.int 7) := by rw [jz]; show ((b ++ [7]).map T.int)[(w64 _).toNat]? = _; rw [hw7]; simp
        cases b with
        | nil =>
          have fR : canR c [] [] [] false = false := by simp [canR]
          have eR : recvFrom (c, [], [], [], false) = (zC, 0, false, zW, 3) := by simp [recvFrom, hc, fR]
          rw [eR] at iR
          rw [fR] at cR
          repeat' (first | (first | refine brT ?_ | refine brF ?_) | intro _ | refine And.intro trivial ?_ | refine And.intro (rfl : (_ : Nat) = _) ?_ | (refine brL ?kzz (fun _ => ?_); case kzz => (simp <;> omega)) | (refine brR ?kzz (fun _ => ?_); case kzz => (simp <;> omega)) | refine ⟨_, sm, ?_⟩ | refine ⟨_, iS, ?_⟩ | refine ⟨_, sS, ?_⟩ | refine ⟨_, cS, ?_⟩ | refine ⟨_, iR, ?_⟩ | refine ⟨_, cR, ?_⟩ | refine ⟨_, iK, ?_⟩ | refine ⟨_, k1, ?_⟩ | refine ⟨_, k3, ?_⟩ | refine ⟨_, sI, ?_⟩ | fail)
          refine And.intro j1.1 ?_
          refine And.intro j1.2 ?_
          repeat (first | refine brT ?_ | refine brF ?_ | refine And.intro rfl ?_ | refine And.intro trivial ?_ | intro _)
          refine ⟨T.int 7, j2, ?_⟩
          refine brF ?_
          refine brT ?_
          refine brF ?_
          refine brT ?_
          refine brI (fun hh => ?_) (fun hh => ?_)
          · simp at hh
          clear hh
          repeat' (first | intro _ | refine And.intro trivial ?_ | refine And.intro (rfl : (_ : Nat) = _) ?_ | (refine brL ?kzz (fun _ => ?_); case kzz => (simp <;> omega)) | (refine brR ?kzz (fun _ => ?_); case kzz => (simp <;> omega)) | refine ⟨_, sm, ?_⟩ | refine ⟨_, iS, ?_⟩ | refine ⟨_, sS, ?_⟩ | refine ⟨_, cS, ?_⟩ | refine ⟨_, iR, ?_⟩ | refine ⟨_, cR, ?_⟩ | refine ⟨_, iK, ?_⟩ | refine ⟨_, k1, ?_⟩ | refine ⟨_, k3, ?_⟩ | refine ⟨_, sI, ?_⟩ | fail)
          all_goals exact tb rfl
        | cons v b =>
          have fR : canR c (v :: b) [] [] false = true := by simp [canR, hc]
          have eR : recvFrom (c, v :: b, [], [], false) = ((c, b, [], [], false), v, true, (-1, 0, 0), 0) := by simp [recvFrom, hc, fR]
          rw [eR] at iR oR
          rw [fR] at cR
          have k2 := i_okX oR (chOk_in ⟨g1, g2, by simp only [List.length_cons] at g3; simp only; omega, rfl, rfl, by simp only [List.all_cons, Bool.and_eq_true] at g6; exact g6.2, .inl rfl, .inl rfl⟩)
          have hi : (0 : Int) ≤ 0 ∧ (0 : Int).toNat < ((v :: b).map T.int).length := ⟨Int.le_refl _, by simp⟩
          repeat' (first | (first | refine brT ?_ | refine brF ?_) | intro _ | refine And.intro trivial ?_ | refine And.intro (rfl : (_ : Nat) = _) ?_ | (refine brL ?kzz (fun _ => ?_); case kzz => (simp <;> omega)) | (refine brR ?kzz (fun _ => ?_); case kzz => (simp <;> omega)) | refine ⟨_, sm, ?_⟩ | refine ⟨_, iS, ?_⟩ | refine ⟨_, sS, ?_⟩ | refine ⟨_, cS, ?_⟩ | refine ⟨_, iR, ?_⟩ | refine ⟨_, cR, ?_⟩ | refine ⟨_, iK, ?_⟩ | refine ⟨_, k1, ?_⟩ | refine ⟨_, k2, ?_⟩ | refine ⟨_, k3, ?_⟩ | refine ⟨hi.1, hi.2, ?_⟩ | refine ⟨T.int v, rfl, ?_⟩ | refine ⟨_, sI, ?_⟩ | fail)
          refine And.intro j1.1 ?_
          refine And.intro j1.2 ?_
          repeat (first | refine brT ?_ | refine brF ?_ | refine And.intro rfl ?_ | refine And.intro trivial ?_ | intro _)
          refine ⟨T.int 7, j2, ?_⟩
          refine brF ?_
          refine brT ?_
          refine brF ?_
          refine brT ?_
          refine brI (fun hh => ?_) (fun hh => ?_)
          · simp at hh
          clear hh
          repeat' (first | intro _ | refine And.intro trivial ?_ | refine And.intro (rfl : (_ : Nat) = _) ?_ | (refine brL ?kzz (fun _ => ?_); case kzz => (simp <;> omega)) | (refine brR ?kzz (fun _ => ?_); case kzz => (simp <;> omega)) | refine ⟨_, sm, ?_⟩ | refine ⟨_, iS, ?_⟩ | refine ⟨_, sS, ?_⟩ | refine ⟨_, cS, ?_⟩ | refine ⟨_, iR, ?_⟩ | refine ⟨_, cR, ?_⟩ | refine ⟨_, iK, ?_⟩ | refine ⟨_, k1, ?_⟩ | refine ⟨_, k2, ?_⟩ | refine ⟨_, k3, ?_⟩ | refine ⟨hi.1, hi.2, ?_⟩ | refine ⟨T.int v, rfl, ?_⟩ | refine ⟨_, sI, ?_⟩ | fail)
          all_goals exact tb rfl
      · have hn2 : (b.length : Int) = c := by omega
        have fS : canS c b s [] false = false := by simp [canS, hn]
        have eS : sendTo (c, b, s, [], false) 7 = (zC, zW, 3) := by simp [sendTo, hc, v7, fS]
        rw [eS] at sS iS
        rw [fS] at cS
        cases s with
        | nil =>
          cases b with
          | nil =>
            have fR : canR c [] [] [] false = false := by simp [canR]
            have eR : recvFrom (c, [], [], [], false) = (zC, 0, false, zW, 3) := by simp [recvFrom, hc, fR]
            rw [eR] at iR
            rw [fR] at cR
            repeat' (first | (first | refine brT ?_ | refine brF ?_ | refine And.intro rfl ?_ | refine And.intro trivial ?_ | intro _) | (refine brL ?kzz (fun _ => ?_); case kzz => (simp <;> omega)) | (refine brR ?kzz (fun _ => ?_); case kzz => (simp <;> omega)) | refine ⟨_, sm, ?_⟩ | refine ⟨_, iS, ?_⟩ | refine ⟨_, sS, ?_⟩ | refine ⟨_, cS, ?_⟩ | refine ⟨_, iR, ?_⟩ | refine ⟨_, cR, ?_⟩ | refine ⟨_, iK, ?_⟩ | refine ⟨_, k3, ?_⟩ | refine ⟨_, sI, ?_⟩ | fail)
            all_goals exact tb rfl
          | cons v b =>
            have fR : canR c (v :: b) [] [] false = true := by simp [canR, hc]
            have eR : recvFrom (c, v :: b, [], [], false) = ((c, b, [], [], false), v, true, (-1, 0, 0), 0) := by simp [recvFrom, hc, fR]
            rw [eR] at iR oR
            rw [fR] at cR
            have k2 := i_okX oR (chOk_in ⟨g1, g2, by simp only [List.length_cons] at g3; simp only; omega, rfl, rfl, by simp only [List.all_cons, Bool.and_eq_true] at g6; exact g6.2, .inl rfl, .inl rfl⟩)
            have hi : (0 : Int) ≤ 0 ∧ (0 : Int).toNat < ((v :: b).map T.int).length := ⟨Int.le_refl _, by simp⟩
            repeat' (first | (first | refine brT ?_ | refine brF ?_ | refine And.intro rfl ?_ | refine And.intro trivial ?_ | intro _) | (refine brL ?kzz (fun _ => ?_); case kzz => (simp <;> omega)) | (refine brR ?kzz (fun _ => ?_); case kzz => (simp <;> omega)) | refine ⟨_, sm, ?_⟩ | refine ⟨_, iS, ?_⟩ | refine ⟨_, sS, ?_⟩ | refine ⟨_, cS, ?_⟩ | refine ⟨_, iR, ?_⟩ | refine ⟨_, cR, ?_⟩ | refine ⟨_, iK, ?_⟩ | refine ⟨_, k2, ?_⟩ | refine ⟨_, k3, ?_⟩ | refine ⟨hi.1, hi.2, ?_⟩ | refine ⟨T.int v, rfl, ?_⟩ | refine ⟨_, sI, ?_⟩ | fail)
            all_goals exact tb rfl
        | cons w s =>
          have hwv : isV w.2.2 = true ∧ s.all (wOkP true) = true := by
            simp only [List.all_cons, Bool.and_eq_true] at g4
            refine ⟨?_, g4.2⟩
            have := g4.1
            simp only [wOkP, wOk, Bool.and_eq_true] at this
            exact this.1.2
          cases b with
          | nil =>
            have fR : canR c [] (w :: s) [] false = true := by simp [canR, hc]
            have eR : recvFrom (c, [], w :: s, [], false) = ((c, [], s, [], false), w.2.2, true, w, 0) := by simp [recvFrom, hc, fR]
            rw [eR] at iR oR
            rw [fR] at cR
            have k2 := i_okX oR (chOk_in ⟨g1, g2, g3, hwv.2, rfl, rfl, .inr ⟨hn2, rfl, rfl⟩, .inl rfl⟩)
            repeat' (first | (first | refine brT ?_ | refine brF ?_ | refine And.intro rfl ?_ | refine And.intro trivial ?_ | intro _) | (refine brL ?kzz (fun _ => ?_); case kzz => (simp <;> omega)) | (refine brR ?kzz (fun _ => ?_); case kzz => (simp <;> omega)) | refine ⟨_, sm, ?_⟩ | refine ⟨_, iS, ?_⟩ | refine ⟨_, sS, ?_⟩ | refine ⟨_, cS, ?_⟩ | refine ⟨_, iR, ?_⟩ | refine ⟨_, cR, ?_⟩ | refine ⟨_, iK, ?_⟩ | refine ⟨_, k2, ?_⟩ | refine ⟨_, k3, ?_⟩ | refine ⟨_, sI, ?_⟩ | fail)
            all_goals exact tb rfl
          | cons v b =>
            have fR : canR c (v :: b) (w :: s) [] false = true := by simp [canR, hc]
            have eR : recvFrom (c, v :: b, w :: s, [], false) = ((c, b ++ [w.2.2], s, [], false), v, true, w, 0) := by simp [recvFrom, hc, fR]
            rw [eR] at iR oR
            rw [fR] at cR
            have k2 := i_okX oR (chOk_in ⟨g1, g2, by simp only [List.length_cons] at g3; simp only [List.length_append, List.length_cons, List.length_nil]; omega, hwv.2, rfl, by simp only [List.all_cons, Bool.and_eq_true] at g6; simp only [List.all_append, List.all_cons, List.all_nil, g6.2, hwv.1]; rfl, .inr ⟨by simp only [List.length_cons] at hn2; simp only [List.length_append, List.length_cons, List.length_nil]; omega, rfl, rfl⟩, .inl rfl⟩)
            have hi : (0 : Int) ≤ 0 ∧ (0 : Int).toNat < ((v :: b).map T.int).length := ⟨Int.le_refl _, by simp⟩
            repeat' (first | (first | refine brT ?_ | refine brF ?_ | refine And.intro rfl ?_ | refine And.intro trivial ?_ | intro _) | (refine brL ?kzz (fun _ => ?_); case kzz => (simp <;> omega)) | (refine brR ?kzz (fun _ => ?_); case kzz => (simp <;> omega)) | refine ⟨_, sm, ?_⟩ | refine ⟨_, iS, ?_⟩ | refine ⟨_, sS, ?_⟩ | refine ⟨_, cS, ?_⟩ | refine ⟨_, iR, ?_⟩ | refine ⟨_, cR, ?_⟩ | refine ⟨_, iK, ?_⟩ | refine ⟨_, k2, ?_⟩ | refine ⟨_, k3, ?_⟩ | refine ⟨hi.1, hi.2, ?_⟩ | refine ⟨T.int v, rfl, ?_⟩ | refine ⟨_, sI, ?_⟩ | fail)
            all_goals exact tb rfl


end Go.Proofs.Ytadpancnhinlbaa.E
