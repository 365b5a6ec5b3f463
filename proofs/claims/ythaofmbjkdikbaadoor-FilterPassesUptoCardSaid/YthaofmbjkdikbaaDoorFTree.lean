/- Filter: the printed functions on trees: how great, how deep, the twin, the same. (Written by hp/genpure16.py.) -/
import Derived.Test.YthaofmbjkdikbaaDoorFRef
import Derived.Test.YthaofmbjkdikbaaDoorPAllx6
import Derived.Test.YthaofmbjkdikbaaDoorPAllx7
import Derived.Test.YthaofmbjkdikbaaDoorPAllx2
namespace Go.Proofs.YthaofmbjkdikbaaDoor.F
open Go.RowKit Go.Lib Go.Sort Go.Shelf Go.Proofs.YthaofmbjkdikbaaDoorW.PrintWords Go.Proofs.YthaofmbjkdikbaaDoor.PAll Go.Proofs.YthaofmbjkdikbaaDoor.V
set_option linter.unusedVariables false
theorem up1 {α : Type} {f : Nat → Option α} (hm : ∀ k, LeO (f k) (f (k + 1))) {k k' : Nat} (hk : k ≤ k') {r : α} (h : f k = some r) : f k' = some r := by
  induction hk with
  | refl => exact h
  | step _ ih => exact hm _ _ ih
theorem rdC {l : List Cn} {i : Nat} (hi : i < l.length) : rd_T26 l (i : Int) = l[i] := by unfold rd_T26; simp [hi]
/-- Both answer, and the same. -/
def T_size (c : Cn) : Prop := ∃ k t, filter_Size.f k c.f0 c.f1 c.f2.f0 c.f2.f1 c.f2.f2 c.f3 c.f4 c.f5 = some t ∧ lodestarref16_Size.f k c.f0 c.f1 c.f2.f0 c.f2.f1 c.f2.f2 c.f3 c.f4 c.f5 = some t
theorem size_loop (l : List Cn) (hl : l.length ≤ 1048576) (a0 : Int) (a1 : ByteArray) (a2 a3 : Int) (a4 : ByteArray) (a5 a6 : Int) (ih : ∀ y ∈ l, T_size y) : ∀ (d i : Nat) (x : Int), i + d = l.length →
    ∃ k t, filter_Size.l0 k x l (l.length : Int) (i : Int) = some t ∧ lodestarref16_Size.l0 k x (i : Int) a0 a1 a2 a3 a4 a5 a6 l = some t
  | 0, i, x, h => ⟨1, x, by rw [filter_Size.l0, if_neg (by omega)], by rw [lodestarref16_Size.l0, if_neg (by omega)]⟩
  | d + 1, i, x, h => by
    have hi : i < l.length := by omega
    obtain ⟨k1, t, h1, h2⟩ := ih l[i] (List.getElem_mem hi)
    obtain ⟨k2, r, h3, h4⟩ := size_loop l hl a0 a1 a2 a3 a4 a5 a6 ih d (i + 1) (wrap64 (x + t)) (by omega)
    refine ⟨k1 + k2 + 1, r, ?_, ?_⟩
    · rw [filter_Size.l0, if_pos (by omega), if_pos (by omega), if_pos (by omega), rdC hi, up1 (fun k => (filter_Size.mono_l k).1 _ _ _ _ _ _ _ _) (Nat.le_add_right k1 k2) h1, Option.bind_some, wr_next (by omega)]
      exact up1 (fun k => (filter_Size.mono_l k).2 _ _ _ _) (Nat.le_add_left k2 k1) h3
    · rw [lodestarref16_Size.l0, if_pos (by omega), if_pos (by omega), rdC hi, up1 (fun k => (lodestarref16_Size.mono_l k).1 _ _ _ _ _ _ _ _) (Nat.le_add_right k1 k2) h2, Option.bind_some, wr_next (by omega)]
      exact up1 (fun k => (lodestarref16_Size.mono_l k).2 _ _ _ _ _ _ _ _ _ _) (Nat.le_add_left k2 k1) h4
theorem size_all {c : Cn} (hs : Small c) : T_size c := by
  induction hs with
  | mk c hl hsub ih =>
    obtain ⟨k, t, h1, h2⟩ := size_loop c.f5 hl c.f0 c.f1 c.f2.f0 c.f2.f1 c.f2.f2 c.f3 c.f4 ih c.f5.length 0 1 (by omega)
    exact ⟨k + 1, t, by rw [filter_Size.f]; exact h1, by rw [lodestarref16_Size.f]; exact h2⟩
/-- Both answer, and the same. -/
def T_depth (c : Cn) : Prop := ∃ k t, filter_Depth.f k c.f0 c.f1 c.f2.f0 c.f2.f1 c.f2.f2 c.f3 c.f4 c.f5 = some t ∧ lodestarref16_Depth.f k c.f0 c.f1 c.f2.f0 c.f2.f1 c.f2.f2 c.f3 c.f4 c.f5 = some t
theorem depth_loop (l : List Cn) (hl : l.length ≤ 1048576) (a0 : Int) (a1 : ByteArray) (a2 a3 : Int) (a4 : ByteArray) (a5 a6 : Int) (ih : ∀ y ∈ l, T_depth y) : ∀ (d i : Nat) (x : Int), i + d = l.length →
    ∃ k t, filter_Depth.l0 k x l (l.length : Int) (i : Int) = some t ∧ lodestarref16_Depth.l0 k x (i : Int) a0 a1 a2 a3 a4 a5 a6 l = some t
  | 0, i, x, h => ⟨1, wrap64 (x + 1), by rw [filter_Depth.l0, if_neg (by omega)], by rw [lodestarref16_Depth.l0, if_neg (by omega)]⟩
  | d + 1, i, x, h => by
    have hi : i < l.length := by omega
    obtain ⟨k1, t, h1, h2⟩ := ih l[i] (List.getElem_mem hi)
    obtain ⟨k2, r, h3, h4⟩ := depth_loop l hl a0 a1 a2 a3 a4 a5 a6 ih d (i + 1) (mx x t) (by omega)
    refine ⟨k1 + k2 + 1, r, ?_, ?_⟩
    · rw [filter_Depth.l0, if_pos (by omega), if_pos (by omega), if_pos (by omega), rdC hi, up1 (fun k => (filter_Depth.mono_l k).1 _ _ _ _ _ _ _ _) (Nat.le_add_right k1 k2) h1, Option.bind_some, wr_next (by omega)]
      exact up1 (fun k => (filter_Depth.mono_l k).2 _ _ _ _) (Nat.le_add_left k2 k1) h3
    · rw [lodestarref16_Depth.l0, if_pos (by omega), if_pos (by omega), rdC hi, up1 (fun k => (lodestarref16_Depth.mono_l k).1 _ _ _ _ _ _ _ _) (Nat.le_add_right k1 k2) h2, Option.bind_some, wr_next (by omega)]
      exact up1 (fun k => (lodestarref16_Depth.mono_l k).2 _ _ _ _ _ _ _ _ _ _) (Nat.le_add_left k2 k1) h4
theorem depth_all {c : Cn} (hs : Small c) : T_depth c := by
  induction hs with
  | mk c hl hsub ih =>
    obtain ⟨k, t, h1, h2⟩ := depth_loop c.f5 hl c.f0 c.f1 c.f2.f0 c.f2.f1 c.f2.f2 c.f3 c.f4 ih c.f5.length 0 0 (by omega)
    exact ⟨k + 1, t, by rw [filter_Depth.f]; exact h1, by rw [lodestarref16_Depth.f]; exact h2⟩
theorem twin_loop (l : List Cn) (hl : l.length ≤ 1048576) (a0 : Int) (a1 : ByteArray) (a2 a3 : Int) (a4 : ByteArray) (a5 a6 : Int) (b0 : Int) (b1 : ByteArray) (b2 b3 : Int) (b4 : ByteArray) (b5 b6 : Int) (ih : ∀ y ∈ l, ∃ k, lodestarlaw16_Twin.f k y.f0 y.f1 y.f2.f0 y.f2.f1 y.f2.f2 y.f3 y.f4 y.f5 = some (y.f0, y.f1, y.f2.f0, y.f2.f1, y.f2.f2, y.f3, y.f4, y.f5)) : ∀ (d i : Nat) (out : List Cn), i + d = l.length → out.length + d ≤ 1048576 →
    ∃ k, lodestarlaw16_Twin.l0 k (i : Int) a0 a1 a2 a3 a4 a5 a6 l b0 b1 b2 b3 b4 b5 b6 out = some (b0, b1, b2, b3, b4, b5, b6, out ++ l.drop i)
  | 0, i, out, h, ho => ⟨1, by
    have hi : i = l.length := by omega
    subst hi
    rw [lodestarlaw16_Twin.l0, if_neg (by omega), List.drop_length, List.append_nil]⟩
  | d + 1, i, out, h, ho => by
    have hi : i < l.length := by omega
    obtain ⟨k1, h1⟩ := ih l[i] (List.getElem_mem hi)
    obtain ⟨k2, h2⟩ := twin_loop l hl a0 a1 a2 a3 a4 a5 a6 b0 b1 b2 b3 b4 b5 b6 ih d (i + 1) (out ++ [l[i]]) (by omega) (by simp; omega)
    refine ⟨k1 + k2 + 1, ?_⟩
    have hd : out ++ l.drop i = (out ++ [l[i]]) ++ l.drop (i + 1) := by rw [List.drop_eq_getElem_cons hi, List.append_assoc]; rfl
    rw [lodestarlaw16_Twin.l0, if_pos (by omega), if_pos (by omega), rdC hi, up1 (fun k => (lodestarlaw16_Twin.mono_l k).1 _ _ _ _ _ _ _ _) (Nat.le_add_right k1 k2) h1, Option.bind_some, if_pos (by omega), wr_next (by omega), hd]
    have h3 := up1 (fun k => (lodestarlaw16_Twin.mono_l k).2 _ _ _ _ _ _ _ _ _ _ _ _ _ _ _ _ _) (Nat.le_add_left k2 k1) h2
    generalize l[i] = y at h3 ⊢
    obtain ⟨y0, y1, ⟨u0, u1, u2⟩, y3, y4, y5⟩ := y
    exact h3
theorem twin_all {c : Cn} (hs : Small c) : ∃ k, lodestarlaw16_Twin.f k c.f0 c.f1 c.f2.f0 c.f2.f1 c.f2.f2 c.f3 c.f4 c.f5 = some (c.f0, c.f1, c.f2.f0, c.f2.f1, c.f2.f2, c.f3, c.f4, c.f5) := by
  induction hs with
  | mk c hl hsub ih =>
    obtain ⟨k, h⟩ := twin_loop c.f5 hl c.f0 c.f1 c.f2.f0 c.f2.f1 c.f2.f2 c.f3 c.f4 c.f0 c.f1 c.f2.f0 c.f2.f1 c.f2.f2 c.f3 c.f4 ih c.f5.length 0 [] (by omega) (by simp; omega)
    exact ⟨k + 1, by rw [lodestarlaw16_Twin.f]; simpa using h⟩
theorem same_loop (l : List Cn) (hl : l.length ≤ 1048576) (a0 : Int) (a1 : ByteArray) (a2 a3 : Int) (a4 : ByteArray) (a5 a6 : Int) (b0 : Int) (b1 : ByteArray) (b2 b3 : Int) (b4 : ByteArray) (b5 b6 : Int) (ih : ∀ y ∈ l, ∃ k, lodestarref16_Same.f k y.f0 y.f1 y.f2.f0 y.f2.f1 y.f2.f2 y.f3 y.f4 y.f5 y.f0 y.f1 y.f2.f0 y.f2.f1 y.f2.f2 y.f3 y.f4 y.f5 = some true) : ∀ (d i : Nat), i + d = l.length →
    ∃ k, lodestarref16_Same.l0 k (i : Int) a0 a1 a2 a3 a4 a5 a6 l b0 b1 b2 b3 b4 b5 b6 l = some true
  | 0, i, h => ⟨1, by rw [lodestarref16_Same.l0, if_neg (by omega)]⟩
  | d + 1, i, h => by
    have hi : i < l.length := by omega
    obtain ⟨k1, h1⟩ := ih l[i] (List.getElem_mem hi)
    obtain ⟨k2, h2⟩ := same_loop l hl a0 a1 a2 a3 a4 a5 a6 b0 b1 b2 b3 b4 b5 b6 ih d (i + 1) (by omega)
    refine ⟨k1 + k2 + 1, ?_⟩
    rw [lodestarref16_Same.l0, if_pos (by omega), if_pos (by omega), if_pos (by omega), rdC hi, up1 (fun k => (lodestarref16_Same.mono_l k).1 _ _ _ _ _ _ _ _ _ _ _ _ _ _ _ _) (Nat.le_add_right k1 k2) h1, Option.bind_some, if_pos rfl, wr_next (by omega)]
    exact up1 (fun k => (lodestarref16_Same.mono_l k).2.2 _ _ _ _ _ _ _ _ _ _ _ _ _ _ _ _ _) (Nat.le_add_left k2 k1) h2
theorem same_all {c : Cn} (hs : Small c) : ∃ k, lodestarref16_Same.f k c.f0 c.f1 c.f2.f0 c.f2.f1 c.f2.f2 c.f3 c.f4 c.f5 c.f0 c.f1 c.f2.f0 c.f2.f1 c.f2.f2 c.f3 c.f4 c.f5 = some true := by
  induction hs with
  | mk c hl hsub ih =>
    obtain ⟨k, h⟩ := same_loop c.f5 hl c.f0 c.f1 c.f2.f0 c.f2.f1 c.f2.f2 c.f3 c.f4 c.f0 c.f1 c.f2.f0 c.f2.f1 c.f2.f2 c.f3 c.f4 ih c.f5.length 0 (by omega)
    exact ⟨k + 2, by rw [lodestarref16_Same.f, if_pos rfl, if_pos rfl, if_neg (by simp), if_pos rfl, if_pos rfl, lodestarref16_Same.j0, if_neg (by simp)]; exact h⟩
end Go.Proofs.YthaofmbjkdikbaaDoor.F
