/- The plain law: what the laws of chapter 15 need of addSpec and joinSpec. -/
import Derived.Test.YtlmngdcifappoaaTallyPlain2
namespace Tally
open Go.RowKit (wrap64)

theorem addSpec_ok {l : List Tl} {d s n : Int} (h : (addSpec l d s n).2 = 0) : ∃ y, addL d s n l = some y ∧ chk l = true ∧ dot d s = true ∧ addSpec l d s n = (y, 0) := by
  unfold addSpec at h ⊢
  cases hc : chk l with
  | false => simp [hc] at h
  | true =>
    cases hd : dot d s with
    | false => simp [hc, hd] at h
    | true =>
      cases ha : addL d s n l with
      | none => simp [hc, hd, ha] at h
      | some y => exact ⟨y, rfl, rfl, rfl, by simp⟩

theorem addSpec_mk {l y : List Tl} {d s n : Int} (hc : chk l = true) (hd : dot d s = true) (ha : addL d s n l = some y) : addSpec l d s n = (y, 0) := by simp [addSpec, hc, hd, ha]
theorem addSpec_bad {l : List Tl} {d s n : Int} (h : (addSpec l d s n).2 ≠ 0) : (addSpec l d s n).1 = [] := by
  unfold addSpec at h ⊢
  cases hc : chk l with
  | false => simp
  | true =>
    cases hd : dot d s with
    | false => simp
    | true =>
      cases ha : addL d s n l with
      | none => simp
      | some y => simp [hc, hd, ha] at h

theorem valueSpec_ok {l : List Tl} (h : chk l = true) : valueSpec l = (value l, 0) := by simp [valueSpec, h]
theorem valueSpec_bad {l : List Tl} (h : chk l = false) : valueSpec l = (0, 150) := by simp [valueSpec, h]

theorem value_add {l y : List Tl} {d s n : Int} (h : addL d s n l = some y) : value y = wrap64 (value l + n) := by
  rw [value_total, value_total, addL_total l h, wrap64_add]

/-- two operations of different devices, in either order. -/
theorem order {l x y : List Tl} {da sa db sb m k : Int} (hne : da ≠ db) (hx : addSpec l da sa m = (x, 0)) (hy : addSpec l db sb k = (y, 0)) :
    chk l = true ∧ ∃ z, addSpec x db sb k = (z, 0) ∧ addSpec y da sa m = (z, 0) ∧ chk z = true ∧ value z = wrap64 (wrap64 (value l + m) + k) := by
  obtain ⟨x', h1, hc, hd1, e1⟩ := addSpec_ok (l := l) (d := da) (s := sa) (n := m) (by rw [hx])
  obtain ⟨y', h2, _, hd2, e2⟩ := addSpec_ok (l := l) (d := db) (s := sb) (n := k) (by rw [hy])
  rw [e1] at hx; rw [e2] at hy
  cases hx; cases hy
  obtain ⟨z, hz1, hz2⟩ := add_comm' hc hd1 hd2 hne h1 h2
  have cx := add_chk hc hd1 h1
  have cy := add_chk hc hd2 h2
  refine ⟨hc, z, addSpec_mk cx hd2 hz1, addSpec_mk cy hd1 hz2, add_chk cx hd2 hz1, ?_⟩
  rw [value_add hz1, value_add h1]

end Tally
