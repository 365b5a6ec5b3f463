/- Rows of bytes that began as a string's: '[]byte(s)' lays a row with a mark behind its end; what is appended to it may lie in it still. -/
import Derived.Test.YtfhnjdjkchbolaaHBase
import Derived.WalkKit
import Derived.ArgAppend
import Derived.Lib.ConvBytes
import Derived.Maps.AppendAt
import Derived.Laws.BytesArg
namespace Go.Proofs.Ytfhnjdjkchbolaa.H
open Go.RowKit Go.Proofs.YtfhnjdjkchbolaaW.PrintWords

abbrev U8 : Int → Value := Value.int .u8
theorem info8 : (Try.prog.info? 5).map (fun i => (i.zero, i.size, i.bytes)) = some (some (.int .u8 0), 1, 1) := by kernel_rfl

/-- The slice value v holds the bytes xs, in a row from base on of which nothing is frozen up to its capacity; or it is nil. -/
def Row8 (w : World) (base : Nat) (v : Value) (xs : List Int) : Prop :=
  (v = .slice none 0 0 ∧ xs = []) ∨ ∃ g cap cur fr, v = .slice (some ⟨g, 0, none⟩) xs.length cap ∧ base ≤ g ∧ w.heap[g]? = some (.cells cur 5 fr) ∧ (∀ j, j < cap → w.frozen? ⟨g, j, none⟩ = false) ∧ xs.length ≤ cap ∧ cap ≤ maxLen ∧ cap ≤ cur.size ∧ cur.toList.take xs.length = xs.map U8

theorem Row8.nil (w : World) (base : Nat) : Row8 w base (.slice none 0 0) [] := .inl ⟨rfl, rfl⟩
theorem Row8.lt {w : World} {base : Nat} {v : Value} {xs : List Int} (h : Row8 w base v xs) : ∀ k, v.ownBlock = some k → base ≤ k ∧ k < w.heap.size := by
  rcases h with ⟨rfl, _⟩ | ⟨g, cap, cur, fr, rfl, hb, hh, _⟩
  · intro k hk; simp [Value.ownBlock] at hk
  · intro k hk
    have : g = k := by simpa [Value.ownBlock] using hk
    subst this
    exact ⟨hb, (Array.getElem?_eq_some_iff.1 hh).1⟩
theorem Row8.move {w w1 : World} {base : Nat} {v : Value} {xs : List Int} (h : Row8 w base v xs) (hm : ∀ k, v.ownBlock = some k → w1.heap[k]? = w.heap[k]?) : Row8 w1 base v xs := by
  rcases h with ⟨rfl, e⟩ | ⟨g, cap, cur, fr, rfl, hb, hh, hf, r⟩
  · exact .inl ⟨rfl, e⟩
  · have e := hm g (by simp [Value.ownBlock])
    exact .inr ⟨g, cap, cur, fr, rfl, hb, e.trans hh, fun j hj => (World.frozen?_of_block (a := ⟨g, j, none⟩) e).trans (hf j hj), r⟩
theorem Row8.weaken {w : World} {base base' : Nat} {v : Value} {xs : List Int} (h : Row8 w base v xs) (hb : base' ≤ base) : Row8 w base' v xs := by
  rcases h with h | ⟨g, cap, cur, fr, e, hg, r⟩
  · exact .inl h
  · exact .inr ⟨g, cap, cur, fr, e, by omega, r⟩
theorem Row8.drewN {w : World} {base : Nat} {v : Value} {xs : List Int} (h : Row8 w base v xs) (m : Nat) : Row8 (w.drewN m) base v xs := h
theorem Row8.below {w w1 : World} {base : Nat} {v : Value} {xs : List Int} (h : Row8 w base v xs) (hb : Below w.heap.size w w1) : Row8 w1 base v xs := h.move fun k hk => hb.block k (h.lt k hk).2
theorem Row8.alloc {w : World} {base : Nat} {v : Value} {xs : List Int} (h : Row8 w base v xs) (o : Obj) : Row8 (w.alloc o) base v xs := h.below ((Below.refl _ w).alloc (Nat.le_refl _) _)
theorem Row8.own {w : World} {base : Nat} {v : Value} {xs : List Int} (h : w.ownsRow base 5 1 v xs.length (xs.map U8)) : Row8 w base v xs := by
  rcases h.2 with ⟨rfl, hn⟩ | ⟨g, cap, cur, rfl, hg, hh, hn, hc, hs, ht⟩
  · exact .inl ⟨rfl, List.eq_nil_of_length_eq_zero hn⟩
  · exact .inr ⟨g, cap, cur, (0, 0), rfl, hg, hh, fun j _ => by simp [World.frozen?, hh], hn, hc, by omega, by simpa using ht⟩
theorem Row8.slice {w : World} {base : Nat} {v : Value} {xs : List Int} (h : Row8 w base v xs) : ∃ A c, v = .slice A xs.length c := by
  rcases h with ⟨rfl, rfl⟩ | ⟨g, cap, cur, fr, rfl, _⟩
  · exact ⟨none, 0, rfl⟩
  · exact ⟨_, cap, rfl⟩
theorem Row8.cell {w : World} {base g cap n : Nat} {xs : List Int} (h : Row8 w base (.slice (some ⟨g, 0, none⟩) n cap) xs) (j : Nat) (hj : j < xs.length) : w.cell? ⟨g, j, none⟩ = some (U8 (xs.getD j 0)) := by
  rcases h with ⟨h, _⟩ | ⟨g', cap', cur, fr, e, hb, hh, hf, hn, hc, hs, ht⟩
  · cases h
  · injection e with e1 e2 e3
    injection e1 with e1
    injection e1 with e1
    subst e1
    have e := congrArg (fun l : List Value => l[j]?) ht
    simp only [List.getElem?_take_of_lt hj] at e
    simp only [World.cell?, hh]
    simpa [hj] using e

/-- '[]byte(s)': what comes back, and the world behind. -/
theorem conv_row8 (w : World) (s : ByteArray) (hs : s.size ≤ maxLen) : ∃ v w1, (convert 9 54 (.string s)).run Try.prog w = .ok v w1 ∧ Row8 w1 w.heap.size v (s.data.toList.map fun b => (b.toNat : Int)) ∧ Below w.heap.size w w1 := by
  refine ⟨_, _, Lib.run_convert_string_bytes w 9 54 5 s Try.underlying9 Try.underlying54 Try.underlying5, ?_, ?_⟩
  · have hge := grownCap_ge w s.size 0 5
    have hsz : (Lib.bytesCells w 5 s).size = grownCap w s.size 0 5 := by
      simp only [Lib.bytesCells, Array.size_append, Array.size_map, Array.size_replicate]
      have : s.data.size = s.size := rfl
      omega
    refine .inr ⟨w.heap.size, grownCap w s.size 0 5, Lib.bytesCells w 5 s, _, by rw [List.length_map, Array.length_toList]; rfl, Nat.le_refl _, Lib.bytesWorld_at_new w 5 s, fun j hj => ?_, ?_, grownCap_le_maxLen _ _ _ _ hs, by omega, ?_⟩
    · simp only [World.frozen?, Lib.bytesWorld_at_new]
      simp
      omega
    · have : s.data.size = s.size := rfl
      simp; omega
    · simp only [Lib.bytesCells, Array.toList_append, Array.toList_map, List.length_map, List.map_map]
      rw [List.take_append_of_le_length (by simp), List.take_of_length_le (by simp)]
      rfl
  · exact ⟨rfl, rfl, rfl, by rw [Lib.bytesWorld_size]; exact Nat.le_succ _, fun k hk => Lib.bytesWorld_at_old w 5 s k hk⟩

/-- One byte more. -/
theorem append_row8 {w0 W : World} {ops : Array Oper} {rest : List Oper} {o : Oper} {a : Act} {Q : Exit → Act → World → Prop} (base : Nat) (hgd : o.guard = none) (s x : Operand)
    (ho : o.op = .call { callee := .builtin .append, args := #[s, x], argTypes := #[54, 54] }) (v : Value) (xs : List Int) (p : Int) (hs : a.eval s = v) (hx : a.eval x = .slice (some ⟨W.heap.size, 0, none⟩) 1 1)
    (HO : Row8 W base v xs) (HB : Below base w0 W) (hbase : base ≤ W.heap.size) (hl : xs.length + 1 ≤ 140737488355328)
    (h : ∀ v1 w1, Row8 w1 base v1 (xs ++ [p]) → Below base w0 w1 → wpList Try.prog ops Q rest (a.put o.dst v1) w1) :
    wpList Try.prog ops Q (o :: rest) a (W.alloc (.cells #[U8 p] 5)) := by
  obtain ⟨i0, hi, hz0, hz1, hz2⟩ := info_parts info8
  have hml : 140737488355328 ≤ maxLen := by unfold maxLen; omega
  have HO' := HO.alloc (.cells #[U8 p] 5)
  have HB' : Below base w0 (W.alloc (.cells #[U8 p] 5)) := HB.trans ((Below.refl base W).alloc hbase _)
  have hnew : ∀ (j : Nat) (u : Value), [U8 p][j]? = some u → (W.alloc (.cells #[U8 p] 5)).cell? ((⟨W.heap.size, 0, none⟩ : Addr).add j) = some u := cell_one_new _ _ _
  have grow : ∀ v' w', w'.ownsRow (W.alloc (.cells #[U8 p] 5)).heap.size 5 1 v' (xs.length + 1) (xs.map U8 ++ [U8 p]) → (W.alloc (.cells #[U8 p] 5)).grownBy w' none → wpList Try.prog ops Q rest (a.put o.dst v') w' := by
    intro v' w' hown hg
    refine h v' w' ?_ (HB'.grown hg (by simp; omega) (fun k e => by cases e))
    refine Row8.own ?_
    have e : (xs ++ [p]).map U8 = xs.map U8 ++ [U8 p] := by simp
    rw [e, List.length_append]
    exact own_weaken hown (by simp; omega)
  rcases HO' with ⟨rfl, rfl⟩ | ⟨g, cap, cur, fr, rfl, hb, hh, hf, hn, hc, hsz, ht⟩
  · refine wpList_append_grows _ hgd s x 54 ho 5 i0 (.int .u8 0) 1 1 Try.underlying54 hi hz0 hz1 hz2 rfl (by decide) none 0 0 [] hs (fun _ => ⟨rfl, rfl⟩) rfl (fun b hb => by cases hb) ⟨W.heap.size, 0, none⟩ 1 1 [U8 p] hx rfl hnew (by simp [Value.oneCell']) (by omega) (by omega) (by omega) ?_
    intro v' w' h1 h2
    exact grow v' w' (by simpa using h1) h2
  · have hcells : ∀ j u, (xs.map U8)[j]? = some u → (W.alloc (.cells #[U8 p] 5)).cell? ⟨g, 0 + j, none⟩ = some u := by
      intro j u hj
      have hjl : j < xs.length := by have := (List.getElem?_eq_some_iff.1 hj).1; simpa using this
      have e := congrArg (fun l : List Value => l[j]?) ht
      simp only [List.getElem?_take_of_lt hjl] at e
      simp only [World.cell?, hh, Nat.zero_add]
      rw [hj] at e
      simpa using e
    refine wpList_append_arg _ hgd s x 54 ho 5 i0 (.int .u8 0) 1 1 Try.underlying54 hi hz0 hz1 hz2 rfl (by decide) g 0 xs.length cap (xs.map U8) hs (by simp) hcells ⟨W.heap.size, 0, none⟩ 1 1 [U8 p] hx rfl hnew (by simp [Value.oneCell'])
      ?_ (by omega) (by omega) ?_ ?_
    · intro hr j hj
      have : j = 0 := by simp at hj; omega
      subst this
      refine ⟨?_, by simpa using hf xs.length (by omega)⟩
      simp only [World.cell?, hh]
      simp
      omega
    · intro hr
      have e1 : (W.alloc (.cells #[U8 p] 5)).setCells g (0 + xs.length * 1) [U8 p] = (W.alloc (.cells #[U8 p] 5)).setCell ⟨g, xs.length, none⟩ (U8 p) := by simp [World.setCells]
      rw [e1]
      refine h _ _ ?_ (HB'.setCell (p := ⟨g, xs.length, none⟩) hb _)
      have hh2 : ((W.alloc (.cells #[U8 p] 5)).setCell ⟨g, xs.length, none⟩ (U8 p)).heap[g]? = some (.cells (cur.setIfInBounds xs.length (U8 p)) 5 fr) := by
        obtain ⟨hlt, hk⟩ := Array.getElem?_eq_some_iff.1 hh
        show ((W.alloc (.cells #[U8 p] 5)).heap.modify g _)[g]? = _
        rw [Array.getElem?_eq_getElem (by rw [Array.size_modify]; exact hlt), Array.getElem_modify_self, hk]
        simp
      refine .inr ⟨g, cap, cur.setIfInBounds xs.length (U8 p), fr, by simp, hb, hh2, fun j hj => ?_, by simpa using hr, hc, by simpa using hsz, ?_⟩
      · rw [World.frozen?_setCell]; exact hf j hj
      · rw [Array.toList_setIfInBounds, List.length_append, List.map_append]
        apply List.ext_getElem?
        intro j
        rcases Nat.lt_trichotomy j xs.length with hj | hj | hj
        · rw [List.getElem?_take_of_lt (by simp; omega), List.getElem?_set_ne (by omega), List.getElem?_append_left (by simpa using hj), ← ht, List.getElem?_take_of_lt hj]
        · subst hj
          rw [List.getElem?_take_of_lt (by simp), List.getElem?_set_self (by simp; omega), List.getElem?_append_right (by simp)]
          simp
        · rw [List.getElem?_take_eq_none (by simp; omega), List.getElem?_eq_none (by simp; omega)]
    · intro _ v' w' h1 h2
      exact grow v' w' h1 h2

/-- 'string(b)'. -/
theorem string_row8 {W : World} {base : Nat} {v : Value} {xs : List Int} (h : Row8 W base v xs) : (convert 54 9 v).run Try.prog W = .ok (.string (strOfNums xs)) W := by
  rcases h with ⟨rfl, rfl⟩ | ⟨g, cap, cur, fr, rfl, hb, hh, hf, hn, hc, hsz, ht⟩
  · exact run_convert_bytes_nil W 54 5 Try.underlying54 Try.underlying5 0 0 9 Try.underlying9
  · refine run_convert_bytes_arg W 54 5 Try.underlying54 Try.underlying5 g 0 xs.length cap xs rfl (fun i hi => ?_) 9 Try.underlying9
    have e := congrArg (fun l : List Value => l[i]?) ht
    simp only [List.getElem?_take_of_lt hi] at e
    simp only [World.cell?, hh, Nat.zero_add]
    simpa [hi] using e
end Go.Proofs.Ytfhnjdjkchbolaa.H
