/- Words: a list of points of the call's own whose cells are written over: what stays. -/
import Derived.Test.YtcpaejdipohndaaVTwin
namespace Go.Proofs.Ytcpaejdipohndaa.V
open Go.RowKit Go.Sort Go.Shelf Go.Lib Go.Maps Go.Proofs.YtcpaejdipohndaaW.PrintWords Go.Proofs.Ytcpaejdipohndaa.PAll Go.Proofs.Ytcpaejdipohndaa.R
set_option linter.unusedVariables false
/-- The fields' row of one point: a block of fields, big enough. -/
def FBlk (lo hi : Nat) (A : Option Addr) (n : Nat) (W : World) : Prop := 0 < n → ∃ gf fs, A = some ⟨gf, 0, none⟩ ∧ lo ≤ gf ∧ gf < hi ∧ W.heap[gf]? = some (.cells fs 35 (0, 0)) ∧ 4 * n ≤ fs.size
/-- The points' row. -/
def PBlk (lo hi : Nat) (v : Value) (l : List Pt) (W : World) : Prop := ∃ A c, v = .slice A l.length c ∧ (0 < l.length → ∃ g cs, A = some ⟨g, 0, none⟩ ∧ lo ≤ g ∧ g < hi ∧ W.heap[g]? = some (.cells cs 33 (0, 0)) ∧ 3 * l.length ≤ cs.size ∧ ∀ i (hi' : i < l.length), ∃ Af cf, cs[i * 3 + 2]? = some (.slice Af l[i].f2.length cf) ∧ FBlk lo hi Af l[i].f2.length W)
/-- W is W3, but for what stands in the blocks from lo to hi; there the points' rows lie. -/
structure TMut (lo hi : Nat) (v : Value) (l : List Pt) (W3 W : World) : Prop where
  os : W.os = W3.os
  tape : W.tape = W3.tape
  output : W.output = W3.output
  size : W.heap.size = W3.heap.size
  far : ∀ k, (k < lo ∨ hi ≤ k) → W.heap[k]? = W3.heap[k]?
  pts : PBlk lo hi v l W
theorem fblk_of {w W : World} {lo : Nat} {v : Value} {fs : List Fl} (h : Kd.R k35 35 w lo (fun _ => True) v fs) (hB : Below w.heap.size w W) : ∃ A c, v = .slice A fs.length c ∧ FBlk lo w.heap.size A fs.length W := by
  obtain ⟨h0, inner, ⟨hn, ho⟩, hr⟩ := h
  rcases ho with ⟨rfl, h1⟩ | ⟨g, cap, cur, rfl, hg, hh, h1, h2, h3, h4⟩
  · exact ⟨none, 0, by rw [h1], fun hp => by omega⟩
  · refine ⟨_, cap, rfl, fun hp => ⟨g, cur, rfl, hg, blk_lt hh, (hB.block g (blk_lt hh)).trans hh, ?_⟩⟩
    have : cur.size = cap * 4 := h3
    omega
theorem pblk_of {w W : World} {lo : Nat} {v : Value} {l : List Pt} (h : Kd.R k33 33 w lo (fun _ => True) v l) (hB : Below w.heap.size w W) : PBlk lo w.heap.size v l W := by
  obtain ⟨h0, inner, ⟨hn, ho⟩, hr⟩ := h
  rcases ho with ⟨rfl, h1⟩ | ⟨g, cap, cur, rfl, hg, hh, h1, h2, h3, h4⟩
  · exact ⟨none, 0, by rw [h1], fun hp => by omega⟩
  · have h3' : cur.size = cap * 3 := h3
    refine ⟨_, cap, rfl, fun hp => ⟨g, cur, rfl, hg, blk_lt hh, (hB.block g (blk_lt hh)).trans hh, by omega, fun i hi => ?_⟩⟩
    have hM := hr.2 i l[i] (List.getElem?_eq_getElem hi)
    obtain ⟨v1, v2, hcs, hR1, hR2⟩ := k33_openM hM
    obtain ⟨Af, cf, rfl, hF⟩ := fblk_of (Kd.R_mono hR2 (fun _ _ => trivial)) hB
    refine ⟨Af, cf, ?_, hF⟩
    have e2 : (((inner.drop (i * k33.sz)).take k33.sz)[2]?) = some (Value.slice Af l[i].f2.length cf) := by rw [hcs]; rfl
    rw [List.getElem?_take_of_lt (by decide), List.getElem?_drop, ← h4, List.getElem?_take_of_lt (by show i * 3 + 2 < l.length * 3; omega), Array.getElem?_toList] at e2
    exact e2
theorem tm_start {w W : World} {lo : Nat} {v : Value} {l : List Pt} (h : Kd.R k33 33 w lo (fun _ => True) v l) (hB : Below w.heap.size w W) : TMut lo w.heap.size v l W W :=
  ⟨rfl, rfl, rfl, rfl, fun _ _ => rfl, pblk_of h hB⟩
theorem TMut.set {lo hi : Nat} {v : Value} {l : List Pt} {W3 W : World} (h : TMut lo hi v l W3 W) {b t : Nat} {cs : Array Value} (h1 : lo ≤ b) (h2 : b < hi) (hb : W.heap[b]? = some (.cells cs t (0, 0))) (q : Nat) (ht : t = 35 ∨ q % 3 ≠ 2) (u : Value) : TMut lo hi v l W3 (W.setCell ⟨b, q, none⟩ u) := by
  have hs := blk_set hb q u
  have ho : ∀ k, k ≠ b → (W.setCell ⟨b, q, none⟩ u).heap[k]? = W.heap[k]? := fun k hk => Below.heap_setCell _ _ _ k hk
  refine ⟨h.os, h.tape, h.output, ?_, ?_, ?_⟩
  · rw [← h.size]; simp [World.setCell]
  · intro k hk; rw [ho k (by omega)]; exact h.far k hk
  · have hFB : ∀ {A : Option Addr} {n : Nat}, FBlk lo hi A n W → FBlk lo hi A n (W.setCell ⟨b, q, none⟩ u) := by
      intro A n hf hn
      obtain ⟨gf, fs, e, g1, g2, g3, g4⟩ := hf hn
      by_cases hgb : gf = b
      · subst hgb
        rw [hb] at g3
        cases g3
        exact ⟨_, _, e, g1, g2, hs, by simpa using g4⟩
      · exact ⟨_, _, e, g1, g2, (ho gf hgb).trans g3, g4⟩
    obtain ⟨A, c, e, hp⟩ := h.pts
    refine ⟨A, c, e, fun hn => ?_⟩
    obtain ⟨g, gs, e1, g1, g2, g3, g4, g5⟩ := hp hn
    by_cases hgb : g = b
    · subst hgb
      rw [hb] at g3
      cases g3
      refine ⟨_, _, e1, g1, g2, hs, by simpa using g4, fun i hi' => ?_⟩
      obtain ⟨Af, cf, g6, g7⟩ := g5 i hi'
      refine ⟨Af, cf, ?_, hFB g7⟩
      rcases ht with ht | ht
      · exact absurd ht (by decide)
      · rw [Array.getElem?_setIfInBounds, if_neg (by omega)]; exact g6
    · refine ⟨_, _, e1, g1, g2, (ho g hgb).trans g3, g4, fun i hi' => ?_⟩
      obtain ⟨Af, cf, g6, g7⟩ := g5 i hi'
      exact ⟨Af, cf, g6, hFB g7⟩
/-- A row of the call's own, written over: its block is there, and big enough; what lies below B stays. -/
structure RMut (B : Nat) (A : Option Addr) (n sz : Nat) (t : TypeId) (W3 W : World) : Prop where
  b : Below B W3 W
  row : 0 < n → ∃ g cs, A = some ⟨g, 0, none⟩ ∧ B ≤ g ∧ W.heap[g]? = some (.cells cs t (0, 0)) ∧ n * sz ≤ cs.size
theorem rmut_of {α : Type} {d : Kd α} {e lo : Nat} {ok : Nat → Prop} {W : World} {A : Option Addr} {n c : Nat} {xs : List α} (h : Kd.R d e W lo ok (.slice A n c) xs) (hn : n = xs.length) : RMut lo A n d.sz e W W := by
  subst hn
  obtain ⟨h0, inner, ⟨hl, ho⟩, hr⟩ := h
  refine ⟨Below.refl _ _, fun hp => ?_⟩
  rcases ho with ⟨e1, h1⟩ | ⟨g, cap, cur, e1, hg, hh, h1, h2, h3, h4⟩
  · omega
  · injection e1 with e1 _ _
    exact ⟨g, cur, e1, hg, hh, by rw [h3]; exact Nat.mul_le_mul_right _ h1⟩
theorem RMut.set {B : Nat} {A : Option Addr} {n sz : Nat} {t : TypeId} {W3 W : World} (h : RMut B A n sz t W3 W) {g t' : Nat} {cs : Array Value} (hg : B ≤ g) (hb : W.heap[g]? = some (.cells cs t' (0, 0))) (q : Nat) (u : Value) : RMut B A n sz t W3 (W.setCell ⟨g, q, none⟩ u) := by
  refine ⟨h.b.setCell (by exact hg) _, fun hp => ?_⟩
  obtain ⟨g1, cs1, e1, h1, h2, h3⟩ := h.row hp
  by_cases he : g1 = g
  · subst he
    rw [hb] at h2
    cases h2
    exact ⟨_, _, e1, h1, blk_set hb q u, by simpa using h3⟩
  · exact ⟨_, _, e1, h1, (Below.heap_setCell _ _ _ _ he).trans h2, h3⟩
/-- What lies in the blocks from base on stays where they do. -/
theorem RowI.move {W W' : World} {base : Nat} {v : Value} {xs : List Int} (h : RowI W base v xs) (hm : ∀ k, base ≤ k → k < W.heap.size → W'.heap[k]? = W.heap[k]?) : RowI W' base v xs :=
  own_move h (fun k hk => hm k (own_base h k hk) (own_lt h k hk))
theorem Rows.move {W W' : World} {base : Nat} {f : Lit → Option Value} {L : Va → List Int} {av : Value} {LA : List Int} (h : Rows W base f L av LA) (hm : ∀ k, base ≤ k → k < W.heap.size → W'.heap[k]? = W.heap[k]?) : Rows W' base f L av LA where
  no := h.no
  yes := fun v hv hL => by obtain ⟨u, h1, h2⟩ := h.yes v hv hL; exact ⟨u, h1, h2.move hm⟩
  back := h.back
  far := h.far
  any := h.any.move hm
  farA := h.farA
theorem WIdx.move {l : List Pt} {name : ByteArray} {base : Nat} {W W' : World} {x : Value} (h : WIdx l name base W x) (hm : ∀ k, base ≤ k → k < W.heap.size → W'.heap[k]? = W.heap[k]?) : WIdx l name base W' x := by
  obtain ⟨bx, bp, m, av, f, rfl, h1, h2, h3, h4, h5, h6⟩ := h
  exact ⟨bx, bp, m, av, f, rfl, (hm bx h2 (Array.getElem?_eq_some_iff.1 h1).1).trans h1, h2, h3, h4, h5.block (hm bp h3 h5.lt), h6.move hm⟩
theorem rw_move {W W' : World} {base : Nat} {v : Value} {xs : List S63} (h : Kd.R k63 63 W base (fun _ => True) v xs) (hm : ∀ k, base ≤ k → k < W.heap.size → W'.heap[k]? = W.heap[k]?) : Kd.R k63 63 W' base (fun _ => True) v xs :=
  Kd.R_mono (Kd.R_move (Kd.R_bound h) (fun k hk => hm k hk.2.1 hk.2.2.1)) (fun _ _ => trivial)
/-- The two facts together, behind the writes. -/
theorem TMut.move {lo hi : Nat} {v : Value} {l : List Pt} {W3 W : World} (h : TMut lo hi v l W3 W) : ∀ k, hi ≤ k → k < W3.heap.size → W.heap[k]? = W3.heap[k]? := fun k hk _ => h.far k (.inr hk)
theorem TMut.below {lo hi : Nat} {v : Value} {l : List Pt} {w W3 W : World} (h : TMut lo hi v l W3 W) (hB : Below lo w W3) : Below lo w W :=
  ⟨h.os.trans hB.os, h.tape.trans hB.tape, h.output.trans hB.output, by rw [h.size]; exact hB.size, fun k hk => (h.far k (.inl hk)).trans (hB.block k hk)⟩
end Go.Proofs.Ytcpaejdipohndaa.V
