/- The frame of tag.Parse (213 slots) written out; printed by gen_parse.py. -/
import Derived.Test.YtjlfchnnhglbjaaGreatState
set_option linter.unusedVariables false
set_option linter.unusedSimpArgs false
namespace Go.Proofs.YtjlfchnnhglbjaaGreat
open Go.RowKit Go.Lib Go.Sort

theorem list_lit (n : Nat) (l : List Value) (h : l.length = n) : l = (List.range n).map fun i => l.getD i undef := by
  apply List.ext_getElem?
  intro i
  by_cases hi : i < n
  · simp [hi, h]
  · rw [List.getElem?_eq_none (by omega), List.getElem?_eq_none (by simp; omega)]
set_option maxRecDepth 100000 in
theorem frame_lit (t : Array Value) (h : t.size = 213) : ∃ u : Nat → Value, (∀ i, t.getD i undef = u i) ∧ t = #[u 0, u 1, u 2, u 3, u 4, u 5, u 6, u 7, u 8, u 9, u 10, u 11, u 12, u 13, u 14, u 15, u 16, u 17, u 18, u 19, u 20, u 21, u 22, u 23, u 24, u 25, u 26, u 27, u 28, u 29, u 30, u 31, u 32, u 33, u 34, u 35, u 36, u 37, u 38, u 39, u 40, u 41, u 42, u 43, u 44, u 45, u 46, u 47, u 48, u 49, u 50, u 51, u 52, u 53, u 54, u 55, u 56, u 57, u 58, u 59, u 60, u 61, u 62, u 63, u 64, u 65, u 66, u 67, u 68, u 69, u 70, u 71, u 72, u 73, u 74, u 75, u 76, u 77, u 78, u 79, u 80, u 81, u 82, u 83, u 84, u 85, u 86, u 87, u 88, u 89, u 90, u 91, u 92, u 93, u 94, u 95, u 96, u 97, u 98, u 99, u 100, u 101, u 102, u 103, u 104, u 105, u 106, u 107, u 108, u 109, u 110, u 111, u 112, u 113, u 114, u 115, u 116, u 117, u 118, u 119, u 120, u 121, u 122, u 123, u 124, u 125, u 126, u 127, u 128, u 129, u 130, u 131, u 132, u 133, u 134, u 135, u 136, u 137, u 138, u 139, u 140, u 141, u 142, u 143, u 144, u 145, u 146, u 147, u 148, u 149, u 150, u 151, u 152, u 153, u 154, u 155, u 156, u 157, u 158, u 159, u 160, u 161, u 162, u 163, u 164, u 165, u 166, u 167, u 168, u 169, u 170, u 171, u 172, u 173, u 174, u 175, u 176, u 177, u 178, u 179, u 180, u 181, u 182, u 183, u 184, u 185, u 186, u 187, u 188, u 189, u 190, u 191, u 192, u 193, u 194, u 195, u 196, u 197, u 198, u 199, u 200, u 201, u 202, u 203, u 204, u 205, u 206, u 207, u 208, u 209, u 210, u 211, u 212] := by
  refine ⟨fun i => t.getD i undef, fun _ => rfl, ?_⟩
  have e := list_lit 213 t.toList (by simpa using h)
  have e2 : t = ⟨(List.range 213).map fun i => t.toList.getD i undef⟩ := by
    rw [← e]
  have e3 : ∀ i, t.toList.getD i undef = t.getD i undef := fun i => by simp [Array.getD_eq_getD_getElem?]
  simp only [e3] at e2
  exact e2

/-- what the frame holds between two labels -/
structure Fr (s : ByteArray) (B Bp : Nat) (a : Act) : Prop where
  d : a.defers = []
  n : a.tmps.size = 213
  s0 : a.tmps.getD 0 undef = .string s
  s2 : a.tmps.getD 2 undef = .pointer (some ⟨B, 0, none⟩)
  s3 : a.tmps.getD 3 undef = .pointer (some ⟨B + 1, 0, none⟩)
  s4 : a.tmps.getD 4 undef = .pointer (some ⟨B + 2, 0, none⟩)
  s5 : a.tmps.getD 5 undef = .pointer (some ⟨Bp, 0, none⟩)
  s6 : a.tmps.getD 6 undef = .func (.func 102) #[] #[.pointer (some ⟨Bp, 0, none⟩)]
theorem Fr.lit {s : ByteArray} {B Bp : Nat} {a : Act} (h : Fr s B Bp a) : ∃ u : Nat → Value, a = { tmps := #[.string s, u 1, .pointer (some ⟨B, 0, none⟩), .pointer (some ⟨B + 1, 0, none⟩), .pointer (some ⟨B + 2, 0, none⟩), .pointer (some ⟨Bp, 0, none⟩), .func (.func 102) #[] #[.pointer (some ⟨Bp, 0, none⟩)], u 7, u 8, u 9, u 10, u 11, u 12, u 13, u 14, u 15, u 16, u 17, u 18, u 19, u 20, u 21, u 22, u 23, u 24, u 25, u 26, u 27, u 28, u 29, u 30, u 31, u 32, u 33, u 34, u 35, u 36, u 37, u 38, u 39, u 40, u 41, u 42, u 43, u 44, u 45, u 46, u 47, u 48, u 49, u 50, u 51, u 52, u 53, u 54, u 55, u 56, u 57, u 58, u 59, u 60, u 61, u 62, u 63, u 64, u 65, u 66, u 67, u 68, u 69, u 70, u 71, u 72, u 73, u 74, u 75, u 76, u 77, u 78, u 79, u 80, u 81, u 82, u 83, u 84, u 85, u 86, u 87, u 88, u 89, u 90, u 91, u 92, u 93, u 94, u 95, u 96, u 97, u 98, u 99, u 100, u 101, u 102, u 103, u 104, u 105, u 106, u 107, u 108, u 109, u 110, u 111, u 112, u 113, u 114, u 115, u 116, u 117, u 118, u 119, u 120, u 121, u 122, u 123, u 124, u 125, u 126, u 127, u 128, u 129, u 130, u 131, u 132, u 133, u 134, u 135, u 136, u 137, u 138, u 139, u 140, u 141, u 142, u 143, u 144, u 145, u 146, u 147, u 148, u 149, u 150, u 151, u 152, u 153, u 154, u 155, u 156, u 157, u 158, u 159, u 160, u 161, u 162, u 163, u 164, u 165, u 166, u 167, u 168, u 169, u 170, u 171, u 172, u 173, u 174, u 175, u 176, u 177, u 178, u 179, u 180, u 181, u 182, u 183, u 184, u 185, u 186, u 187, u 188, u 189, u 190, u 191, u 192, u 193, u 194, u 195, u 196, u 197, u 198, u 199, u 200, u 201, u 202, u 203, u 204, u 205, u 206, u 207, u 208, u 209, u 210, u 211, u 212], defers := [] } := by
  obtain ⟨t, d⟩ := a
  obtain ⟨hd, hn, h0, h2, h3, h4, h5, h6⟩ := h
  simp only at hd hn h0 h2 h3 h4 h5 h6
  obtain ⟨u, hu, e⟩ := frame_lit t hn
  rw [hu] at h0 h2 h3 h4 h5 h6
  refine ⟨u, ?_⟩
  rw [h0, h2, h3, h4, h5, h6] at e
  rw [e, hd]
end Go.Proofs.YtjlfchnnhglbjaaGreat
