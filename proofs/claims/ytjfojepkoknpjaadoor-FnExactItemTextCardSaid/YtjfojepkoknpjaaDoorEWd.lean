/- Contracts of functions of this seat's program. -/
import Derived.Test.YtjfojepkoknpjaaDoorETy
import Derived.Test.YtjfojepkoknpjaaDoorEJn
import Derived.Test.YtjfojepkoknpjaaDoorETx
import Derived.Lib.Join
namespace Go.Proofs.YtjfojepkoknpjaaDoor.E
set_option linter.unusedVariables false
set_option linter.unusedSimpArgs false
set_option maxHeartbeats 1600000
theorem ba_ext {a b : ByteArray} (h : a.data.toList = b.data.toList) : a = b := by
  obtain ⟨⟨a⟩⟩ := a
  obtain ⟨⟨b⟩⟩ := b
  simp at h
  rw [h]
theorem joinB_data (l : List ByteArray) (sep : ByteArray) : (joinB l sep).data.toList = Lib.join (l.map (·.data.toList)) sep.data.toList := by simp [joinB]
theorem joinB_one (x sep : ByteArray) : joinB [x] sep = x := ba_ext (by rw [joinB_data]; exact Lib.join_one _ _)
theorem joinB_snoc (x : ByteArray) (r : List ByteArray) (y sep : ByteArray) : joinB (x :: (r ++ [y])) sep = joinB (x :: r) sep ++ sep ++ y := by
  refine ba_ext ?_
  rw [ByteArray.data_append, ByteArray.data_append, Array.toList_append, Array.toList_append, joinB_data, joinB_data, List.map_cons, List.map_cons, Lib.join_cons, Lib.join_cons]
  simp [Lib.joinTail]
def isE (a : ByteArray) : Bool := a.toList == (⟨#[]⟩ : ByteArray).toList
theorem isE_iff (a : ByteArray) : isE a = decide (a.size = 0) := by
  unfold isE
  rw [ByteArray.toList_eq, ByteArray.toList_eq]
  obtain ⟨⟨a⟩⟩ := a
  cases a with
  | nil => rfl
  | cons x r => simp [ByteArray.size]
def joined (l : List ByteArray) (sep : ByteArray) : ByteArray := if l.any isE then ⟨#[]⟩ else joinB l sep
theorem i_joined (l : List ByteArray) (sep : ByteArray) (hl : l.length ≤ bound) (hz : (joinB l sep).size ≤ 140737488355328) : Spec Tryd.prog 14 [.ro (.sl 1 (l.map T.str)), .ro (T.str sep)] [T.str (joined l sep)] := by
  have hl' : l.length ≤ 16777216 := hl
  refine fn Tryd.func14 ?_
  repeat (first | refine brT ?_ | refine brF ?_ | refine And.intro rfl ?_ | refine And.intro trivial ?_ | intro _)
  refine loopR (fun i => ⟨19, [(0, .c (.ro 1 (l.map T.str))), (1, .vv (.string sep)), (7, .c (.ro 1 (l.map T.str))), (8, .int l.length), (9, .int i)], []⟩) l.length (fun i => ∀ j (hj : j < l.length), j < i → isE l[j] = false) (fun j _ h => absurd h (by omega)) (wk rfl ⟨rfl, rfl, rfl, lenm, rfl, trivial⟩ trivial) ?_
  intro i hi hI
  refine brD (fun h => ?_) (fun h => ?_)
  · have h : i < l.length := by simpa using h
    refine ⟨nn i, T.str l[i], atm h, ?_⟩
    repeat (first | refine brT ?_ | refine brF ?_ | refine And.intro rfl ?_ | refine And.intro trivial ?_ | intro _)
    refine brI (fun h1 => ?_) (fun h1 => ?_)
    · have h1 : isE l[i] = true := h1
      have e : joined l sep = ⟨#[]⟩ := if_pos (List.any_eq_true.2 ⟨l[i], List.getElem_mem h, h1⟩)
      rw [e]
      repeat (first | refine brT ?_ | refine brF ?_ | refine And.intro rfl ?_ | refine And.intro trivial ?_ | intro _)
      exact rfl
    · have h1 : isE l[i] = false := h1
      repeat (first | refine brT ?_ | refine brF ?_ | refine And.intro rfl ?_ | refine And.intro trivial ?_ | intro _)
      refine nxtR h ?_ (wk rfl ⟨rfl, rfl, rfl, rfl, up1 h hl', trivial⟩ trivial)
      intro j hj h2
      by_cases h3 : j = i
      · subst h3; exact h1
      · exact hI j hj (by omega)
  · have h : i = l.length := by simp at h; omega
    have e : joined l sep = joinB l sep := if_neg (by
      rw [List.any_eq_true]
      rintro ⟨x, hx, hx2⟩
      obtain ⟨j, hj, rfl⟩ := List.mem_iff_getElem.1 hx
      rw [hI j hj (by omega)] at hx2
      cases hx2)
    rw [e]
    repeat (first | refine brT ?_ | refine brF ?_ | refine And.intro rfl ?_ | refine And.intro trivial ?_ | intro _)
    refine ⟨_, s_Join l sep (by omega) hz, ?_⟩
    repeat (first | refine brT ?_ | refine brF ?_ | refine And.intro rfl ?_ | refine And.intro trivial ?_ | intro _)
    exact rfl
abbrev sp : ByteArray := ⟨#[32]⟩


end Go.Proofs.YtjfojepkoknpjaaDoor.E
