/- What stands between the loops of stats.Build, and what each round makes of it: plain lemmas, no walk. -/
import Derived.Test.YtihanpdfnpgnfaaSSort
import Derived.Test.YtihanpdfnpgnfaaSHash
import Derived.Maps.OwnOps
import Derived.Maps.OwnSet
import Derived.Maps.RangeWalk
import Derived.Test.YtihanpdfnpgnfaaWWords
import Derived.Test.YtihanpdfnpgnfaaWInvWords
import Derived.Test.YtihanpdfnpgnfaaPAllx3
namespace Go.Proofs.Ytihanpdfnpgnfaa.H
open Go.RowKit Go.Sort Go.Shelf Go.Lib Go.Maps Go.Proofs.YtihanpdfnpgnfaaW.PrintWords Go.Proofs.Ytihanpdfnpgnfaa.PAll
set_option linter.unusedVariables false

/-! ### buckets -/
theorem cell_top (W : World) (v : Value) (t : TypeId) : (W.alloc (.cells #[v] t)).cell? ⟨W.heap.size, 0, none⟩ = some v := (Boxed.new W t v).cell
/-- How many unlike neighbours the first i of p make. -/
def kindsUp (p : List Int) : Nat → Int
  | 0 => 0
  | i + 1 => if i = 0 then kindsUp p i + 1 else if rd p ((i : Int) - 1) = rd p (i : Int) then kindsUp p i else kindsUp p i + 1
def bkt (p : List Int) : S36 := ⟨rd p 0, rd p ((p.length : Int) - 1), p.length, kindsUp p p.length⟩
def partOf (l : List Int) (b i : Nat) : List Int := (l.drop (i * l.length / b)).take ((i + 1) * l.length / b - i * l.length / b)
theorem kindsUp_le (p : List Int) (i : Nat) : 0 ≤ kindsUp p i ∧ kindsUp p i ≤ i := by
  induction i with
  | zero => exact ⟨Int.le_refl _, Int.le_refl _⟩
  | succ i ih =>
    unfold kindsUp
    split
    · omega
    · split <;> omega
theorem bucket_l0 (p : List Int) (hp : p.length ≤ 17592186044416) (a b c : Int) (d : Nat) : ∀ (k i : Nat), i ≤ p.length → p.length - i = d → d < k → stats_bucket.l0 k p p (p.length : Int) (i : Int) a b c (kindsUp p i) = some (a, b, c, kindsUp p p.length) := by
  induction d with
  | zero =>
    intro k i hi hd hk
    obtain ⟨k, rfl⟩ : ∃ m, k = m + 1 := ⟨k - 1, by omega⟩
    have : i = p.length := by omega
    subst this
    simp only [stats_bucket.l0]
    rw [if_neg (by omega)]
  | succ d ih =>
    intro k i hi hd hk
    obtain ⟨k, rfl⟩ : ∃ m, k = m + 1 := ⟨k - 1, by omega⟩
    have hw : wrap64 ((i : Int) + 1) = ((i + 1 : Nat) : Int) := by unfold wrap64; omega
    have hk0 := kindsUp_le p i
    have hkw : wrap64 (kindsUp p i + 1) = kindsUp p i + 1 := by unfold wrap64; omega
    have h := ih k (i + 1) (by omega) (by omega) (by omega)
    simp only [stats_bucket.l0]
    rw [if_pos (by omega), if_pos (by omega), if_pos (by omega)]
    by_cases h0 : (i : Int) = 0
    · rw [if_pos h0, hw, hkw]
      rw [kindsUp, if_pos (by omega)] at h
      exact h
    · have hm : wrap64 ((i : Int) - 1) = (i : Int) - 1 := by unfold wrap64; omega
      rw [if_neg h0, hm, if_pos (by omega), if_pos (by omega), hw, hkw]
      rw [kindsUp, if_neg (by omega)] at h
      by_cases he : rd p ((i : Int) - 1) = rd p (i : Int)
      · rw [if_pos he] at h ⊢
        exact h
      · rw [if_neg he] at h ⊢
        exact h
theorem bucket_ex (p : List Int) (h0 : 0 < p.length) (hp : p.length ≤ 17592186044416) : ∃ k, stats_bucket.f k p = some ((bkt p).f0, (bkt p).f1, (bkt p).f2, (bkt p).f3) := by
  refine ⟨p.length + 1, ?_⟩
  have hm : wrap64 ((p.length : Int) - 1) = (p.length : Int) - 1 := by unfold wrap64; omega
  unfold stats_bucket.f
  rw [if_pos (by omega), hm, if_pos (by omega), if_pos (by omega)]
  exact bucket_l0 p hp _ _ _ p.length (p.length + 1) 0 (by omega) (by omega) (by omega)
theorem infoB : (Try.prog.info? 36).map (fun i => (i.zero, i.size, i.bytes)) = some (some (.agg #[.int .i64 0, .int .i64 0, .int .i64 0, .int .i64 0]), k36.sz, 32) := by kernel_rfl
theorem infoE : (Try.prog.info? 41).map (fun i => (i.zero, i.size, i.bytes)) = some (some (.agg #[.int .i64 0, .int .i64 0]), k41.sz, 16) := by kernel_rfl
theorem wrap_nat (n : Nat) (h : n < 9223372036854775808) : wrap64 (n : Int) = (n : Int) := by unfold wrap64; omega
theorem cut_lt {x n b : Nat} (hb : 0 < b) (h : b ≤ n) : x / b < (x + n) / b := by
  have h1 : x / b + 1 = (x + b) / b := by rw [Nat.add_div_right x hb]
  have h2 : (x + b) / b ≤ (x + n) / b := Nat.div_le_div_right (by omega)
  omega
theorem C_cut {W : World} {base n c : Nat} {a : Option Addr} {ls : List Int} (ho : W.ownsRow base 3 1 (.slice a n c) n (ls.map I64)) {f t : Nat} (hft : f < t) (htn : t ≤ n) (hn : n ≤ 1048576) :
    ∃ g, a = some ⟨g, 0, none⟩ ∧ t ≤ c ∧ ((ls.drop f).take (t - f)).length = t - f ∧ Kd.C (Kd.int .i64) W (some ⟨g, f, none⟩) (t - f) ((ls.drop f).take (t - f)) := by
  have hll : ls.length = n := by have := ho.1; simpa using this
  rcases ho.2 with ⟨h, h0⟩ | ⟨g, cap, cur, h, _, hh, hnc, _, hs, ht⟩
  · omega
  · injection h with h1 h2 h3
    subst h1 h3
    have hlen : ((ls.drop f).take (t - f)).length = t - f := by simp; omega
    refine ⟨g, rfl, by omega, hlen, Kd.C_of_reads (d := (0 : Int)) ⟨hlen, by omega, fun hn => ⟨_, rfl, fun j hj => ?_⟩⟩⟩
    have ea : (⟨g, f, none⟩ : Addr).add j = ⟨g, f + j, none⟩ := by unfold Addr.add; split <;> simp_all
    rw [ea]
    have h1 : (cur.toList.take (n * 1))[f + j]? = (ls.map I64)[f + j]? := by rw [ht]
    rw [List.getElem?_take_of_lt (by omega), Array.getElem?_toList] at h1
    simp only [World.cell?, hh, h1]
    have h5 : f + j < ls.length := by omega
    have h6 : ((ls.drop f).take (t - f)).getD j 0 = ls[f + j] := by
      rw [List.getD, List.getElem?_take_of_lt hj, List.getElem?_drop, List.getElem?_eq_getElem h5]; rfl
    rw [h6]
    simp [h5]

/-! ### the struct on its way -/
structure MidB (w : World) (cnt : Int) (bv wv : Value) (bs : List S36) (W : World) : Prop where
  f6 : W.heap[w.heap.size]? = some (.cells #[.int .i64 0, .slice none 0 0, .slice none 0 0] 27 (0, 0))
  f7 : W.heap[w.heap.size + 1]? = some (.cells #[.int .i64 cnt, bv, wv] 27 (0, 0))
  R : Kd.R k36 36 W (w.heap.size + 2) (fun _ => True) bv bs
  B : Below w.heap.size w W
  z : w.heap.size + 2 ≤ W.heap.size
theorem k36_any {w : World} {base : Nat} {ok1 ok2 : Nat → Prop} {x : S36} {cs : List Value} (h : k36.M w base ok1 x cs) : k36.M w base ok2 x cs := by obtain rfl := k36_openM h; exact k36_mkM _ _ _ _
theorem k41_any {w : World} {base : Nat} {ok1 ok2 : Nat → Prop} {x : S41} {cs : List Value} (h : k41.M w base ok1 x cs) : k41.M w base ok2 x cs := by obtain rfl := k41_openM h; exact k41_mkM _ _ _ _
theorem R36_grown {base : Nat} {W W' : World} {v : Value} {bs : List S36} (h : Kd.R k36 36 W base (fun _ => True) v bs) {row : Option Nat} (hg : W.grownBy W' row) (hne : ∀ k, v.ownBlock = some k → row ≠ some k) : Kd.R k36 36 W' base (fun _ => True) v bs :=
  Kd.R_mono (Kd.R_grown (Kd.R_flat (ok' := fun k => some k ≠ row) k36_any h (fun k hk _ e => hne k hk e.symm)) hg (fun _ hk => hk)) (fun _ _ => trivial)
theorem R41_grown {base : Nat} {W W' : World} {v : Value} {bs : List S41} (h : Kd.R k41 41 W base (fun _ => True) v bs) {row : Option Nat} (hg : W.grownBy W' row) (hne : ∀ k, v.ownBlock = some k → row ≠ some k) : Kd.R k41 41 W' base (fun _ => True) v bs :=
  Kd.R_mono (Kd.R_grown (Kd.R_flat (ok' := fun k => some k ≠ row) k41_any h (fun k hk _ e => hne k hk e.symm)) hg (fun _ hk => hk)) (fun _ _ => trivial)
theorem R_lo {α : Type} {d : Kd α} {e base : Nat} {ok : Nat → Prop} {W : World} {v : Value} {xs : List α} (h : d.R e W base ok v xs) : ∀ k, v.ownBlock = some k → base ≤ k ∧ k < W.heap.size ∧ ∃ cells, W.heap[k]? = some (.cells cells e (0, 0)) := by
  intro k hk
  obtain ⟨inner, ho⟩ := Kd.R_own h
  exact ⟨own_base ho k hk, own_lt ho k hk, own_typed ho k hk⟩
section
variable {w W W' : World} {cnt : Int} {bv wv : Value} {bs : List S36}
theorem MidB.grown (h : MidB w cnt bv wv bs W) {row : Option Nat} (hg : W.grownBy W' row) (hr : ∀ k, row = some k → w.heap.size + 2 ≤ k) (hne : ∀ k, bv.ownBlock = some k → row ≠ some k) : MidB w cnt bv wv bs W' where
  f6 := (hg.block _ (by have := h.z; omega) (fun e => by have := hr _ e.symm; omega)).trans h.f6
  f7 := (hg.block _ (by have := h.z; omega) (fun e => by have := hr _ e.symm; omega)).trans h.f7
  R := R36_grown h.R hg hne
  B := h.B.grown hg h.B.size (fun k e => by have := hr k e; omega)
  z := Nat.le_trans h.z hg.size
theorem grown_of_below (hb : Below W.heap.size W W') : W.grownBy W' none := ⟨hb.os, hb.tape, hb.output, hb.size, fun k hk _ => hb.block k hk⟩
theorem MidB.below (h : MidB w cnt bv wv bs W) (hb : Below W.heap.size W W') : MidB w cnt bv wv bs W' := h.grown (grown_of_below hb) (fun k e => by cases e) (fun k _ e => by cases e)
theorem MidB.drewN (h : MidB w cnt bv wv bs W) (n : Nat) : MidB w cnt bv wv bs (W.drewN n) := ⟨h.f6, h.f7, h.R, ⟨h.B.os, h.B.tape, h.B.output, h.B.size, h.B.block⟩, h.z⟩
/-- A field of the struct is stored. -/
theorem MidB.set1 (h : MidB w cnt bv wv bs W) {v : Value} {ys : List S36} (hR : Kd.R k36 36 W (w.heap.size + 2) (fun _ => True) v ys) : MidB w cnt v wv ys (W.setCell ⟨w.heap.size + 1, 1, none⟩ v) where
  f6 := (Below.heap_setCell _ _ _ _ (by show w.heap.size ≠ w.heap.size + 1; omega)).trans h.f6
  f7 := blk_set h.f7 1 v
  R := Kd.R_set hR h.f7 (by decide) 1 v
  B := h.B.setCell (by show w.heap.size ≤ w.heap.size + 1; omega) _
  z := by have := h.z; simpa [World.setCell] using this
theorem MidB.set2 (h : MidB w cnt bv wv bs W) (v : Value) : MidB w cnt bv v bs (W.setCell ⟨w.heap.size + 1, 2, none⟩ v) where
  f6 := (Below.heap_setCell _ _ _ _ (by show w.heap.size ≠ w.heap.size + 1; omega)).trans h.f6
  f7 := blk_set h.f7 2 v
  R := Kd.R_set h.R h.f7 (by decide) 2 v
  B := h.B.setCell (by show w.heap.size ≤ w.heap.size + 1; omega) _
  z := by have := h.z; simpa [World.setCell] using this
theorem MidB.c1 (h : MidB w cnt bv wv bs W) : W.cell? ⟨w.heap.size + 1, 1, none⟩ = some bv := by simp [World.cell?, h.f7]
theorem MidB.c2 (h : MidB w cnt bv wv bs W) : W.cell? ⟨w.heap.size + 1, 2, none⟩ = some wv := by simp [World.cell?, h.f7]
theorem MidB.c0 (h : MidB w cnt bv wv bs W) : W.cell? ⟨w.heap.size + 1, 0, none⟩ = some (.int .i64 cnt) := by simp [World.cell?, h.f7]
theorem MidB.fr (h : MidB w cnt bv wv bs W) (i : Nat) : W.frozen? ⟨w.heap.size + 1, i, none⟩ = false := by simp [World.frozen?, h.f7]
/-- behind an append onto a row of entries or buckets: the struct's own block is none of it -/
theorem MidB.app (h : MidB w cnt bv wv bs W) {W1 w1 : World} (hb : Below W.heap.size W W1) {v : Value} (hg : W1.grownBy w1 v.ownBlock) (hv : ∀ k, v.ownBlock = some k → w.heap.size + 2 ≤ k) :
    w1.cell? ⟨w.heap.size + 1, 1, none⟩ = some bv ∧ w1.cell? ⟨w.heap.size + 1, 2, none⟩ = some wv ∧ ∀ i, w1.frozen? ⟨w.heap.size + 1, i, none⟩ = false := by
  have h1 := h.below hb
  have f7 := (hg.block (w.heap.size + 1) (by have := h1.z; omega) (fun e => by have := hv _ e.symm; omega)).trans h1.f7
  exact ⟨by simp [World.cell?, f7], by simp [World.cell?, f7], fun i => by simp [World.frozen?, f7]⟩
end
/-- The first loop's append: the struct with the new list of buckets. -/
theorem MidB.pushB {w W W1 w1 : World} {cnt : Int} {bv wv v9 : Value} {bs ys : List S36} (h : MidB w cnt bv wv bs W) (hb : Below W.heap.size W W1) (hg : W1.grownBy w1 bv.ownBlock)
    (hR : Kd.R k36 36 w1 (w.heap.size + 2) (fun _ => True) v9 ys) : MidB w cnt v9 wv ys (w1.setCell ⟨w.heap.size + 1, 1, none⟩ v9) := by
  have h1 := h.below hb
  have hlo := R_lo h1.R
  have hz := h1.z
  have hz2 := hg.size
  have hB1 : Below w.heap.size w w1 := h1.B.grown hg h1.B.size (fun k e => by have := (hlo k e).1; omega)
  have g6 := (hg.block w.heap.size (by omega) (fun e => by have := (hlo _ e.symm).1; omega)).trans h1.f6
  have g7 := (hg.block (w.heap.size + 1) (by omega) (fun e => by have := (hlo _ e.symm).1; omega)).trans h1.f7
  exact ⟨(Below.heap_setCell _ _ _ _ (by show w.heap.size ≠ w.heap.size + 1; omega)).trans g6, blk_set g7 1 v9, Kd.R_set hR g7 (by decide) 1 v9, hB1.setCell (by show w.heap.size ≤ w.heap.size + 1; omega) _, by
    have : (w1.setCell ⟨w.heap.size + 1, 1, none⟩ v9).heap.size = w1.heap.size := by simp [World.setCell]
    omega⟩
theorem own_push {w W W1 w1 : World} {g c n : Nat} {bv v9 : Value} {ls : List Int} {bs : List S36} {cnt : Int} {wv : Value} (h : MidB w cnt bv wv bs W) (ho : W.ownsRow (w.heap.size + 2) 3 1 (.slice (some ⟨g, 0, none⟩) n c) n (ls.map I64))
    (hb : Below W.heap.size W W1) (hg : W1.grownBy w1 bv.ownBlock) : (w1.setCell ⟨w.heap.size + 1, 1, none⟩ v9).ownsRow (w.heap.size + 2) 3 1 (.slice (some ⟨g, 0, none⟩) n c) n (ls.map I64) := by
  have h1 := h.below hb
  have ho1 := pw_own_below ho hb
  refine own_move ho1 (fun k hk => ?_)
  have hk2 := own_base ho1 k hk
  obtain ⟨cells, hc⟩ := own_typed ho1 k hk
  refine (Below.heap_setCell _ _ _ _ (by show k ≠ w.heap.size + 1; omega)).trans (hg.block k (own_lt ho1 k hk) (fun e => ?_))
  obtain ⟨_, _, cells', hc'⟩ := R_lo h1.R k e.symm
  rw [hc] at hc'
  injection hc' with hc'
  injection hc' with _ hc'
  revert hc'
  decide

/-! ### the count of the hashes -/
structure MapIs (D : DataW Unit) (hs : List Int) : Prop where
  m : IsMap D
  yes : ∀ h zd, h ∈ hs → D.atKey (.int .i64 h) zd = .lit (.int .i64 (hs.count h))
  no : ∀ h zd, h ∉ hs → D.atKey (.int .i64 h) zd = zd
  back : ∀ kl, Maps.has D kl = true → ∃ h ∈ hs, kl = .int .i64 h
  there : ∀ h ∈ hs, Maps.has D (.int .i64 h) = true
theorem MapIs.nil : MapIs (.map []) [] := ⟨isMap_empty, by simp, fun _ _ _ => rfl, fun kl h => by simp [Maps.has] at h, by simp⟩
theorem MapIs.step {D : DataW Unit} {hs : List Int} {h c : Int} (M : MapIs D hs) (hat : D.atKey (.int .i64 h) (.lit (.int .i64 0)) = .lit (.int .i64 c)) (hl : hs.length ≤ 1048576) :
    MapIs (D.put (.int .i64 h) (.lit (.int .i64 (wrap64 (c + 1))))) (hs ++ [h]) := by
  have hc : c = hs.count h := by
    by_cases hm : h ∈ hs
    · rw [M.yes h _ hm] at hat; injection hat with hat; injection hat with _ hat; exact hat.symm
    · rw [M.no h _ hm] at hat; injection hat with hat; injection hat with _ hat; rw [List.count_eq_zero.2 hm]; exact hat.symm
  have hle := List.count_le_length (a := h) (l := hs)
  have hw : wrap64 (c + 1) = c + 1 := by rw [hc]; unfold wrap64; omega
  rw [hw, hc]
  have hkk : ∀ h' : Int, h' ≠ h → Lit.int .i64 h' ≠ Lit.int .i64 h := fun h' hn e => hn (by injection e)
  refine ⟨M.m.put _ _, fun h' zd hm => ?_, fun h' zd hm => ?_, fun kl hk => ?_, fun h' hm => ?_⟩
  · by_cases e : h' = h
    · subst e
      rw [atKey_put_same M.m (by exact trivial), List.count_append, List.count_singleton_self]
      simp
    · rw [atKey_put_other (hkk _ e), M.yes h' zd (by simpa [e] using hm), List.count_append]
      have : List.count h' [h] = 0 := List.count_eq_zero.2 (by simp [e])
      rw [this, Nat.add_zero]
  · have e : h' ≠ h := fun e => hm (by simp [e])
    rw [atKey_put_other (hkk _ e), M.no h' zd (fun hx => hm (by simp [hx]))]
  · by_cases e : kl = .int .i64 h
    · exact ⟨h, by simp, e⟩
    · rw [has_put_other e] at hk
      obtain ⟨h', hm, e'⟩ := M.back kl hk
      exact ⟨h', by simp [hm], e'⟩
  · by_cases e : h' = h
    · subst e; exact has_put_same M.m (by exact trivial) _
    · rw [has_put_other (hkk _ e)]
      exact M.there h' (by simpa [e] using hm)

/-- What has been collected of the count, what is left still to come. -/
structure Coll (hs : List Int) (left : Lit → Bool) (E : List S41) : Prop where
  a : ∀ e ∈ E, e.f1 ∈ hs ∧ e.f0 = hs.count e.f1 ∧ left (.int .i64 e.f1) = false
  b : ∀ h ∈ hs, left (.int .i64 h) = true ∨ ∃ e ∈ E, e.f1 = h
  n : (E.map (·.f1)).Nodup
theorem Coll.start {D : DataW Unit} {hs : List Int} (M : MapIs D hs) : Coll hs (Maps.has D) [] := ⟨by simp, fun h hm => .inl (M.there h hm), by simp⟩
theorem Coll.step {D : DataW Unit} {hs : List Int} {left : Lit → Bool} {E : List S41} (M : MapIs D hs) (C : Coll hs left E) {x c : Int} (hl : left (.int .i64 x) = true) (hat : ∀ zd, D.atKey (.int .i64 x) zd = .lit (.int .i64 c)) :
    Coll hs (fun z => left z && !z.sameKey (.int .i64 x)) (E ++ [⟨c, x⟩]) := by
  have hx : x ∈ hs := by
    by_cases hm : x ∈ hs
    · exact hm
    · have := (M.no x .nil hm).symm.trans (hat .nil); cases this
  have hc : c = hs.count x := by
    have := (M.yes x .nil hx).symm.trans (hat .nil)
    injection this with this; injection this with _ this; exact this.symm
  refine ⟨fun e he => ?_, fun h hm => ?_, ?_⟩
  · rcases List.mem_append.1 he with he | he
    · obtain ⟨h1, h2, h3⟩ := C.a e he
      exact ⟨h1, h2, by simp [h3]⟩
    · obtain rfl := List.mem_singleton.1 he
      exact ⟨hx, hc, by simp [Lit.sameKey]⟩
  · rcases C.b h hm with h1 | ⟨e, he, h1⟩
    · by_cases e : h = x
      · exact .inr ⟨⟨c, x⟩, by simp, e.symm⟩
      · exact .inl (by simp [h1, Lit.sameKey, e])
    · exact .inr ⟨e, by simp [he], h1⟩
  · rw [List.map_append, List.nodup_append]
    refine ⟨C.n, by simp, fun a ha b hb e => ?_⟩
    obtain ⟨e1, he1, rfl⟩ := List.mem_map.1 ha
    simp at hb
    subst hb
    have := (C.a e1 he1).2.2
    rw [e, hl] at this
    cases this
/-- The entries of the hashes hs: each hash once, rising, with how often it stands there. -/
structure IsEnts (hs : List Int) (E : List S41) : Prop where
  r : E.Pairwise fun a b => a.f1 < b.f1
  a : ∀ e ∈ E, e.f1 ∈ hs ∧ e.f0 = hs.count e.f1
  b : ∀ h ∈ hs, ∃ e ∈ E, e.f1 = h
theorem Coll.ents {hs : List Int} {left : Lit → Bool} {E E' : List S41} (C : Coll hs left E) (hl : ∀ kl, left kl = false) (hp : E'.Perm E) (hs' : E'.Pairwise fun a b => a.f1 ≤ b.f1) : IsEnts hs E' := by
  refine ⟨?_, fun e he => ?_, fun h hm => ?_⟩
  · have hn : (E'.map (·.f1)).Nodup := ((hp.map _).nodup_iff).2 C.n
    have hn2 : E'.Pairwise fun a b => a.f1 ≠ b.f1 := List.pairwise_map.1 hn
    exact (hs'.and hn2).imp (fun h => by omega)
  · obtain ⟨h1, h2, _⟩ := C.a e (hp.mem_iff.1 he)
    exact ⟨h1, h2⟩
  · rcases C.b h hm with h1 | ⟨e, he, h1⟩
    · rw [hl] at h1; cases h1
    · exact ⟨e, hp.mem_iff.2 he, h1⟩
theorem IsEnts.unique {hs : List Int} {E E' : List S41} (h : IsEnts hs E) (h' : IsEnts hs E') : E = E' := by
  have key : ∀ (E E' : List S41), E.Pairwise (fun a b => a.f1 < b.f1) → E'.Pairwise (fun a b => a.f1 < b.f1) → (∀ e, e ∈ E ↔ e ∈ E') → E = E' := by
    intro E
    induction E with
    | nil =>
      intro E' _ _ hm
      cases E' with
      | nil => rfl
      | cons a r => exact absurd ((hm a).2 (by simp)) (by simp)
    | cons a r ih =>
      intro E' h1 h2 hm
      cases E' with
      | nil => exact absurd ((hm a).1 (by simp)) (by simp)
      | cons b r' =>
        rw [List.pairwise_cons] at h1 h2
        have hab : a = b := by
          rcases List.mem_cons.1 ((hm a).1 (by simp)) with e | e
          · exact e
          · rcases List.mem_cons.1 ((hm b).2 (by simp)) with e2 | e2
            · exact e2.symm
            · have := h2.1 a e; have := h1.1 b e2; omega
        subst hab
        rw [ih r' h1.2 h2.2 (fun e => ?_)]
        constructor
        · intro he
          rcases List.mem_cons.1 ((hm e).1 (by simp [he])) with e2 | e2
          · subst e2; have := h1.1 e he; omega
          · exact e2
        · intro he
          rcases List.mem_cons.1 ((hm e).2 (by simp [he])) with e2 | e2
          · subst e2; have := h2.1 e he; omega
          · exact e2
  have one : ∀ (E E' : List S41), IsEnts hs E → IsEnts hs E' → ∀ e, e ∈ E → e ∈ E' := by
    intro E E' h h' e he
    obtain ⟨h1, h2⟩ := h.a e he
    obtain ⟨e', he', h3⟩ := h'.b e.f1 h1
    have h4 := (h'.a e' he').2
    have : e = e' := by
      cases e; cases e'
      simp only at h2 h3 h4
      subst h3
      rw [h2, h4]
    rwa [this]
  exact key E E' h.r h'.r (fun e => ⟨one E E' h h' e, one E' E h' h e⟩)
def insE (h : Int) : List S41 → List S41
  | [] => [⟨1, h⟩]
  | e :: r => if h < e.f1 then ⟨1, h⟩ :: e :: r else if h = e.f1 then ⟨e.f0 + 1, h⟩ :: r else e :: insE h r
def ents (hs : List Int) : List S41 := hs.foldl (fun E h => insE h E) []
theorem insE_mem (h : Int) : ∀ (E : List S41), E.Pairwise (fun a b => a.f1 < b.f1) → ∀ e, e ∈ insE h E ↔ (e.f1 ≠ h ∧ e ∈ E) ∨ (e.f1 = h ∧ ((∃ e0 ∈ E, e0.f1 = h ∧ e.f0 = e0.f0 + 1) ∨ ((∀ e0 ∈ E, e0.f1 ≠ h) ∧ e.f0 = 1))) := by
  intro E
  induction E with
  | nil =>
    intro _ e
    simp only [insE, List.mem_singleton, List.not_mem_nil, and_false, false_or, false_and, exists_false, false_implies, implies_true, true_and]
    constructor
    · rintro rfl; exact ⟨rfl, rfl⟩
    · rintro ⟨h1, h2⟩; cases e; simp only at h1 h2; rw [h1, h2]
  | cons a r ih =>
    intro hp e
    rw [List.pairwise_cons] at hp
    unfold insE
    by_cases h1 : h < a.f1
    · rw [if_pos h1]
      have hno : ∀ e0 ∈ a :: r, e0.f1 ≠ h := by
        intro e0 he0
        rcases List.mem_cons.1 he0 with e1 | e1
        · subst e1; omega
        · have := hp.1 e0 e1; omega
      constructor
      · intro he
        rcases List.mem_cons.1 he with e1 | e1
        · subst e1; exact .inr ⟨rfl, .inr ⟨hno, rfl⟩⟩
        · exact .inl ⟨hno e e1, e1⟩
      · rintro (⟨_, he⟩ | ⟨h2, ⟨e0, he0, h3, _⟩ | ⟨_, h3⟩⟩)
        · exact List.mem_cons_of_mem _ he
        · exact absurd h3 (hno e0 he0)
        · have : e = ⟨1, h⟩ := by cases e; simp only at h2 h3; rw [h2, h3]
          rw [this]; exact List.mem_cons_self
    · rw [if_neg h1]
      by_cases h2 : h = a.f1
      · rw [if_pos h2]
        have hno : ∀ e0 ∈ r, e0.f1 ≠ h := fun e0 he0 => by have := hp.1 e0 he0; omega
        constructor
        · intro he
          rcases List.mem_cons.1 he with e1 | e1
          · subst e1; exact .inr ⟨rfl, .inl ⟨a, List.mem_cons_self, h2.symm, rfl⟩⟩
          · exact .inl ⟨hno e e1, List.mem_cons_of_mem _ e1⟩
        · rintro (⟨h3, he⟩ | ⟨h3, ⟨e0, he0, h4, h5⟩ | ⟨h4, _⟩⟩)
          · rcases List.mem_cons.1 he with e1 | e1
            · subst e1; exact absurd h2.symm h3
            · exact List.mem_cons_of_mem _ e1
          · rcases List.mem_cons.1 he0 with e1 | e1
            · subst e1
              have : e = ⟨e0.f0 + 1, h⟩ := by cases e; simp only at h3 h5; rw [h3, h5]
              rw [this]; exact List.mem_cons_self
            · exact absurd h4 (hno e0 e1)
          · exact absurd h2.symm (h4 a List.mem_cons_self)
      · rw [if_neg h2]
        have hi := ih hp.2 e
        constructor
        · intro he
          rcases List.mem_cons.1 he with e1 | e1
          · subst e1; exact .inl ⟨fun e2 => h2 e2.symm, List.mem_cons_self⟩
          · rcases hi.1 e1 with ⟨h3, h4⟩ | ⟨h3, ⟨e0, he0, h4, h5⟩ | ⟨h4, h5⟩⟩
            · exact .inl ⟨h3, List.mem_cons_of_mem _ h4⟩
            · exact .inr ⟨h3, .inl ⟨e0, List.mem_cons_of_mem _ he0, h4, h5⟩⟩
            · refine .inr ⟨h3, .inr ⟨fun e0 he0 => ?_, h5⟩⟩
              rcases List.mem_cons.1 he0 with e2 | e2
              · subst e2; exact fun e3 => h2 e3.symm
              · exact h4 e0 e2
        · rintro (⟨h3, he⟩ | ⟨h3, ⟨e0, he0, h4, h5⟩ | ⟨h4, h5⟩⟩)
          · rcases List.mem_cons.1 he with e1 | e1
            · subst e1; exact List.mem_cons_self
            · exact List.mem_cons_of_mem _ (hi.2 (.inl ⟨h3, e1⟩))
          · rcases List.mem_cons.1 he0 with e1 | e1
            · subst e1; exact absurd h4.symm h2
            · exact List.mem_cons_of_mem _ (hi.2 (.inr ⟨h3, .inl ⟨e0, e1, h4, h5⟩⟩))
          · exact List.mem_cons_of_mem _ (hi.2 (.inr ⟨h3, .inr ⟨fun e0 he0 => h4 e0 (List.mem_cons_of_mem _ he0), h5⟩⟩))
theorem insE_rise (h : Int) : ∀ (E : List S41), E.Pairwise (fun a b => a.f1 < b.f1) → (insE h E).Pairwise (fun a b => a.f1 < b.f1) := by
  intro E
  induction E with
  | nil => intro _; exact List.pairwise_singleton _ _
  | cons a r ih =>
    intro hp
    have hp2 := hp
    rw [List.pairwise_cons] at hp
    unfold insE
    by_cases h1 : h < a.f1
    · rw [if_pos h1, List.pairwise_cons]
      refine ⟨fun e he => ?_, hp2⟩
      rcases List.mem_cons.1 he with e1 | e1
      · subst e1; exact h1
      · have := hp.1 e e1; show h < e.f1; omega
    · rw [if_neg h1]
      by_cases h2 : h = a.f1
      · rw [if_pos h2, List.pairwise_cons]
        exact ⟨fun e he => by have := hp.1 e he; show h < e.f1; omega, hp.2⟩
      · rw [if_neg h2, List.pairwise_cons]
        refine ⟨fun e he => ?_, ih hp.2⟩
        rcases (insE_mem h r hp.2 e).1 he with ⟨_, h4⟩ | ⟨h3, _⟩
        · exact hp.1 e h4
        · omega
theorem ents_is (hs : List Int) : IsEnts hs (ents hs) := by
  have key : ∀ (hs0 hs : List Int) (E : List S41), IsEnts hs0 E → IsEnts (hs0 ++ hs) (hs.foldl (fun E h => insE h E) E) := by
    intro hs0 hs
    induction hs generalizing hs0 with
    | nil => intro E h; simpa using h
    | cons x r ih =>
      intro E h
      have := ih (hs0 ++ [x]) (insE x E) ?_
      · simpa using this
      · refine ⟨insE_rise x E h.r, fun e he => ?_, fun y hy => ?_⟩
        · rcases (insE_mem x E h.r e).1 he with ⟨h1, h2⟩ | ⟨h1, ⟨e0, he0, h2, h3⟩ | ⟨h2, h3⟩⟩
          · obtain ⟨h3, h4⟩ := h.a e h2
            refine ⟨by simp [h3], ?_⟩
            rw [h4, List.count_append]
            have : List.count e.f1 [x] = 0 := List.count_eq_zero.2 (by simp [h1])
            rw [this, Nat.add_zero]
          · obtain ⟨h4, h5⟩ := h.a e0 he0
            refine ⟨by simp [h1], ?_⟩
            rw [h3, h5, h2, h1, List.count_append, List.count_singleton_self]
            simp
          · refine ⟨by simp [h1], ?_⟩
            have : List.count x hs0 = 0 := List.count_eq_zero.2 (fun hm => by
              obtain ⟨e0, he0, h4⟩ := h.b x hm
              exact h2 e0 he0 h4)
            rw [h3, h1, List.count_append, this, List.count_singleton_self]
            rfl
        · by_cases e : y = x
          · subst e
            by_cases hm : ∃ e0 ∈ E, e0.f1 = y
            · obtain ⟨e0, he0, h4⟩ := hm
              exact ⟨⟨e0.f0 + 1, y⟩, (insE_mem y E h.r _).2 (.inr ⟨rfl, .inl ⟨e0, he0, h4, rfl⟩⟩), rfl⟩
            · exact ⟨⟨1, y⟩, (insE_mem y E h.r _).2 (.inr ⟨rfl, .inr ⟨fun e0 he0 h4 => hm ⟨e0, he0, h4⟩, rfl⟩⟩), rfl⟩
          · obtain ⟨e0, he0, h4⟩ := h.b y (by simpa [e] using hy)
            exact ⟨e0, (insE_mem x E h.r _).2 (.inl ⟨by rw [h4]; exact e, he0⟩), h4⟩
  have := key [] hs [] ⟨List.Pairwise.nil, by simp, by simp⟩
  simpa [ents] using this
end Go.Proofs.Ytihanpdfnpgnfaa.H
