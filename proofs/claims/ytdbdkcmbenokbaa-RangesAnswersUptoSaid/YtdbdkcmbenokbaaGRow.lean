/- Ranges: rows of entries in memory: the block known whole; what a call, a store and a clearing leave of it. -/
import Derived.Test.YtdbdkcmbenokbaaGTest
import Derived.Deep.LoopGhost
import Derived.Laws.IdiomCopy
import Derived.Lib.SlicesCompact
namespace Go.Proofs.Ytdbdkcmbenokbaa.G
open Go.RowKit Go.Sort Go.Lib
set_option linter.unusedVariables false

abbrev En := Int × Int
abbrev I64 : Int → Value := Value.int .i64
/-- An entry's cells. -/
def encE (p : Int × Int) : List Value := [.int .i64 p.1, .int .i64 p.2]
def flatE (E : List (Int × Int)) : List Value := E.flatMap encE
theorem flatE_len (E : List (Int × Int)) : (flatE E).length = E.length * 2 := by
  induction E with
  | nil => rfl
  | cons a r ih => simp [flatE, encE] at ih ⊢; omega
theorem flatE_get (E : List (Int × Int)) (t : Nat) (h : t < E.length * 2) : (flatE E)[t]? = (encE (E.toArray[t / 2]!))[t % 2]? := by
  induction E generalizing t with
  | nil => simp at h
  | cons a r ih =>
    match t with
    | 0 => simp [flatE, encE]
    | 1 => simp [flatE, encE]
    | t + 2 =>
      have e1 : (t + 2) / 2 = t / 2 + 1 := by omega
      have e2 : (t + 2) % 2 = t % 2 := by omega
      have := ih t (by simp at h; omega)
      rw [e1, e2]
      have e3 : (flatE (a :: r))[t + 2]? = (flatE r)[t]? := by simp [flatE, encE]
      rw [e3, this]
      have h3 : t / 2 < r.length := by simp at h; omega
      simp [h3]
theorem below_grow (W : World) (q : Nat) (os : Array Obj) : Below W.heap.size W (grow (W.drewN q) os) := ⟨rfl, rfl, rfl, by simp, fun k hk => heap_grow_old _ _ hk⟩
theorem below_dg (W : World) (q : Nat) (os : Array Obj) : Below W.heap.size W (grow (W.drew.drewN q) os) := ⟨rfl, rfl, rfl, by simp, fun k hk => heap_grow_old _ _ hk⟩

/-- The block g holds the entries of dk in its first cells; it has room for cap. -/
def RowD (W : World) (g cap : Nat) (dk : Array En) : Prop := ∃ cur, W.heap[g]? = some (.cells cur 32 (0, 0)) ∧ cur.size = cap * 2 ∧ dk.size ≤ cap ∧ ∀ j, j < dk.size → cur[j * 2]? = some (I64 dk[j]!.1) ∧ cur[j * 2 + 1]? = some (I64 dk[j]!.2)
theorem RowD.lt {W : World} {g cap : Nat} {dk : Array En} (h : RowD W g cap dk) : g < W.heap.size := by
  obtain ⟨cur, hb, _⟩ := h
  exact (Array.getElem?_eq_some_iff.1 hb).1
theorem RowD.block {W W' : World} {g cap : Nat} {dk : Array En} (h : RowD W g cap dk) (hb : W'.heap[g]? = W.heap[g]?) : RowD W' g cap dk := by
  obtain ⟨cur, h1, h2⟩ := h
  exact ⟨cur, hb.trans h1, h2⟩
theorem RowD.below {W W' : World} {g cap : Nat} {dk : Array En} (h : RowD W g cap dk) (hb : Below W.heap.size W W') : RowD W' g cap dk := h.block (hb.block _ h.lt)
theorem RowD.cell {W : World} {g cap : Nat} {dk : Array En} (h : RowD W g cap dk) {j : Nat} (hj : j < dk.size) :
    (W.cell? ⟨g, j * 2, none⟩ = some (.int .i64 dk[j]!.1) ∧ W.cell? ⟨g, j * 2 + 1, none⟩ = some (.int .i64 dk[j]!.2)) ∧ (W.frozen? ⟨g, j * 2, none⟩ = false ∧ W.frozen? ⟨g, j * 2 + 1, none⟩ = false) ∧ W.shape? g = some (32, cap * 2) := by
  obtain ⟨cur, hb, hs, hc, hD⟩ := h
  obtain ⟨h0, h1⟩ := hD j hj
  exact ⟨⟨by simp only [World.cell?, hb]; exact h0, by simp only [World.cell?, hb]; exact h1⟩, ⟨by simp [World.frozen?, hb], by simp [World.frozen?, hb]⟩, by simp [World.shape?, hb, hs]⟩
theorem blk_set {W : World} {g : Nat} {cur : Array Value} {t : TypeId} (h : W.heap[g]? = some (.cells cur t (0, 0))) (j : Nat) (v : Value) : (W.setCell ⟨g, j, none⟩ v).heap[g]? = some (.cells (cur.setIfInBounds j v) t (0, 0)) := by
  have hg : g < W.heap.size := (Array.getElem?_eq_some_iff.1 h).1
  simp [World.setCell, Array.getElem?_modify, h]
theorem grown_set (W : World) (b j : Nat) (v : Value) : W.grownBy (W.setCell ⟨b, j, none⟩ v) (some b) :=
  ⟨rfl, rfl, rfl, by simp [World.setCell], fun k _ hk => Below.heap_setCell _ _ _ k (fun e => hk (by rw [e]))⟩
theorem grown_trans {A B C : World} {row : Option Nat} (h : A.grownBy B row) (k : B.grownBy C row) : A.grownBy C row :=
  ⟨k.os.trans h.os, k.tape.trans h.tape, k.output.trans h.output, Nat.le_trans h.size k.size, fun j hj hn => (k.block j (Nat.lt_of_lt_of_le hj h.size) hn).trans (h.block j hj hn)⟩
theorem grown_of_below {W W' : World} {row : Option Nat} (hb : Below W.heap.size W W') : W.grownBy W' row := ⟨hb.os, hb.tape, hb.output, hb.size, fun k hk _ => hb.block k hk⟩
theorem RowD.set {W : World} {g cap : Nat} {dk : Array En} (h : RowD W g cap dk) {k : Nat} (hk : k < dk.size) (x y : Int) :
    RowD ((W.setCell ⟨g, k * 2, none⟩ (.int .i64 x)).setCell ⟨g, k * 2 + 1, none⟩ (.int .i64 y)) g cap (dk.setIfInBounds k (x, y)) := by
  obtain ⟨cur, hb, hs, hc, hD⟩ := h
  refine ⟨_, blk_set (blk_set hb _ _) _ _, by simp [hs], by simpa using hc, fun j hj => ?_⟩
  have hj' : j < dk.size := by simpa using hj
  obtain ⟨h0, h1⟩ := hD j hj'
  by_cases e : j = k
  · subst e
    rw [show (dk.setIfInBounds j (x, y))[j]! = (x, y) by simp [hj']]
    simp [Array.getElem?_setIfInBounds, hs]
    omega
  · rw [show (dk.setIfInBounds k (x, y))[j]! = dk[j]! by simp [getElem!_def, Ne.symm e]]
    rw [Array.getElem?_setIfInBounds, if_neg (by omega), Array.getElem?_setIfInBounds, if_neg (by omega), Array.getElem?_setIfInBounds, if_neg (by omega), Array.getElem?_setIfInBounds, if_neg (by omega)]
    exact ⟨h0, h1⟩
/-- What a row of stores from cell o on leaves: the block, the cells ahead of o. -/
theorem setCells_blk (g : Nat) (t : TypeId) : ∀ (vs : List Value) (o : Nat) (W : World) (cur : Array Value), W.heap[g]? = some (.cells cur t (0, 0)) →
    ∃ cur', (W.setCells g o vs).heap[g]? = some (.cells cur' t (0, 0)) ∧ cur'.size = cur.size ∧ (∀ j, j < o → cur'[j]? = cur[j]?) ∧ W.grownBy (W.setCells g o vs) (some g)
  | [], o, W, cur, h => ⟨cur, h, rfl, fun _ _ => rfl, ⟨rfl, rfl, rfl, Nat.le_refl _, fun _ _ _ => rfl⟩⟩
  | v :: r, o, W, cur, h => by
    obtain ⟨cur', h1, h2, h3, h4⟩ := setCells_blk g t r (o + 1) (W.setCell ⟨g, o, none⟩ v) _ (blk_set h o v)
    refine ⟨cur', h1, by rw [h2]; simp, fun j hj => ?_, grown_trans (grown_set W g o v) h4⟩
    rw [h3 j (by omega), Array.getElem?_setIfInBounds, if_neg (by omega)]
/-- What is cleared from place k on: the entries ahead of it stay. -/
theorem RowD.cleared {W : World} {g cap : Nat} {dk : Array En} (h : RowD W g cap dk) {k : Nat} (hk : k ≤ dk.size) (vs : List Value) : RowD (W.setCells g (k * 2) vs) g cap (dk.take k) ∧ W.grownBy (W.setCells g (k * 2) vs) (some g) := by
  obtain ⟨cur, hb, hs, hc, hD⟩ := h
  obtain ⟨cur', h1, h2, h3, h4⟩ := setCells_blk g _ vs (k * 2) W cur hb
  refine ⟨⟨cur', h1, by rw [h2, hs], by simp; omega, fun j hj => ?_⟩, h4⟩
  have hj' : j < k := by simp at hj; omega
  obtain ⟨h0, h5⟩ := hD j (by omega)
  have e : (dk.take k)[j]! = dk[j]! := by rw [getElem!_pos (dk.take k) j hj, getElem!_pos dk j (by omega)]; simp
  rw [e, h3 _ (by omega), h3 _ (by omega)]
  exact ⟨h0, h5⟩
theorem run_clear_E (w : World) (t e ty : TypeId) (ht : Try.prog.underlying t = some (.slice e)) (hv : ∀ w, (zeroValue e).run Try.prog w = .ok (.agg #[.int .i64 0, .int .i64 0]) w) (b o n c : Nat) (hn : 0 < n)
    (hc : ∀ j, j < n * 2 → (w.cell? ⟨b, o + j, none⟩).isSome = true) (hf : ∀ j, j < n * 2 → w.frozen? ⟨b, o + j, none⟩ = false) :
    (Builtin.clear_ #[t] ty #[.slice (some ⟨b, o, none⟩) n c]).run Try.prog w = .ok (.tuple #[]) (w.setCells b o (List.replicate (n * 2) (.int .i64 0))) := by
  have hzc : (Builtin.zeroCells (Value.agg #[.int .i64 0, .int .i64 0]).cells n).toList = List.replicate (n * 2) (.int .i64 0) := by
    simp [Builtin.zeroCells, Value.cells]
    apply List.ext_getElem
    · simp
    · intro i h1 h2
      simp
      have : i % 2 = 0 ∨ i % 2 = 1 := by omega
      rcases this with h | h <;> simp [h]
  have hst := run_storeCells_cells (P := Try.prog) b o (List.replicate (n * 2) (.int .i64 0)) 0 w (by simpa using hc) (by simpa using hf) (by intro v hv'; rw [List.eq_of_mem_replicate hv']; rfl)
  simp only [Nat.add_zero] at hst
  obtain ⟨m, rfl⟩ : ∃ m, n = m + 1 := ⟨n - 1, by omega⟩
  simp [Builtin.clear_, run_underlying ht, hv, hzc, hst]
end Go.Proofs.Ytdbdkcmbenokbaa.G
