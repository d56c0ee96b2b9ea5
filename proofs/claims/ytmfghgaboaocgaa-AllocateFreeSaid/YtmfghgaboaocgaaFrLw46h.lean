/- Split and Join, the program's answer and the reference's. -/
import Derived.Test.YtmfghgaboaocgaaFrLw46g
set_option linter.all false
namespace Go.Proofs.Ytmfghgaboaocgaa.Dn
open Go Go.Pev
set_option linter.unusedVariables false
set_option linter.unusedSimpArgs false
set_option maxRecDepth 4000
theorem qbfg {l : List AV} : qg2 l ↔ (∀ y, y ∈ l → qpu y = true ∧ mayB y = true) ∧ l.Pairwise fun x y => ltY x y ∧ qda y x = false := by
  constructor
  · intro h
    refine ⟨fun y hy => ?_, List.pairwise_iff_getElem.2 fun i j hi hj hij => ?_⟩
    · obtain ⟨j, hj⟩ := List.getElem?_of_mem hy
      exact ⟨(h j y hj).p, (h j y hj).may⟩
    · have h1 : l[i]? = some l[i] := by simp
      have h2 : l[j]? = some l[j] := by simp
      exact ⟨h.sorted i _ h1 j _ hij h2, (h j _ h2).bar i _ hij h1⟩
  · rintro ⟨h1, h2⟩ j y hy
    rw [List.pairwise_iff_getElem] at h2
    obtain ⟨hj, rfl⟩ := List.getElem?_eq_some_iff.1 hy
    refine ⟨(h1 _ (List.getElem_mem hj)).1, (h1 _ (List.getElem_mem hj)).2, fun i z hji hz => ?_, fun k z hk hz => ?_⟩
    · obtain ⟨hi, rfl⟩ := List.getElem?_eq_some_iff.1 hz
      exact (h2 i j hi hj (by omega)).1
    · obtain ⟨hi, rfl⟩ := List.getElem?_eq_some_iff.1 hz
      exact (h2 k j hi hj hk).2
theorem qbpu {l : List AV} (hl : qc4 l) (hn : l.length ≤ 100000) {b : AV} (hb : qu9 b) : qc4 (insF b l) := ⟨by rw [qbc7]; omega, fun y hy => by
  rcases qq0.1 hy with rfl | h
  · exact hb
  · exact hl.2 y h⟩
theorem q5i {l : List AV} (hl : qc4 l) {v : Bool} {hi lo bits : Int} {y : AV} (h : l.find? (atP v hi lo bits) = some y) : q5b l v hi lo bits = (y, true) := by
  unfold q5b; rw [h]; simp only
  rw [qbom (hl.2 y (List.mem_of_find?_eq_some h)).1]
theorem qbnc {l : List AV} {v : Bool} {hi lo bits : Int} (h : l.find? (atP v hi lo bits) = none) : q5b l v hi lo bits = (blk0, false) := by
  unfold q5b; rw [h]
end Go.Proofs.Ytmfghgaboaocgaa.Dn
