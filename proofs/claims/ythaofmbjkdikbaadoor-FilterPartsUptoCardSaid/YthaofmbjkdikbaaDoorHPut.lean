/- The contract of lodestarref08's Put: a number more in a rising list that is the caller's own. -/
import Derived.Test.YthaofmbjkdikbaaDoorHBase
import Derived.WalkKit
import Derived.OwnWalk
import Derived.Laws.CopyOwn
import Derived.Deep.RegionLaw
import Derived.Maps.AppendAt
import Derived.LoopTactic
import Derived.Lib.Hide
import Derived.Outline
import Derived.Deep.DeepMust
import Derived.Test.YthaofmbjkdikbaaDoorWKept
namespace Go.Proofs.YthaofmbjkdikbaaDoor.H
open Go.RowKit Go.Proofs.YthaofmbjkdikbaaDoorW.PrintWords
set_option linter.unusedVariables false

theorem grownBy_setRow (w : World) (g : Nat) (cs : Array Value) : w.grownBy (w.setRow g cs) (some g) := ⟨rfl, rfl, rfl, by simp [World.setRow], fun k _ h => setRow_other w g k cs (fun e => h (by rw [e]))⟩

/-- copy as one step of a region that draws its order: the row behind it, and that nothing else has turned. -/
theorem step_copy_grown {P : Program} {ops : Array Oper} {o : Oper} {a : Act} {w : World} {K : Act → World → Prop} {Q : Exit → Act → World → Prop} {E : Prop} (hgd : o.guard = none) (d s : Operand) (dT sT : TypeId)
    (ho : o.op = .call { callee := .builtin .copy, args := #[d, s], argTypes := #[dT, sT] }) (elem : TypeId) (hu : P.underlying dT = some (.slice elem)) (hsz : (P.info? elem).map (·.size) = some 1)
    (dp sp : Option Addr) (dLen dCap sLen sCap : Nat) (hd : a.eval d = .slice dp dLen dCap) (hs : a.eval s = .slice sp sLen sCap)
    (g off : Nat) (cur : List Value) (t : TypeId) (hg : w.heap[g]? = some (.cells cur.toArray t (0, 0))) (cs : List Value) (hn : cs.length = Nat.min sLen dLen)
    (hpos : 0 < cs.length → dp = some ⟨g, off, none⟩ ∧ ∃ ad, sp = some ad ∧ ∀ j v, cs[j]? = some v → w.cell? (ad.add j) = some v)
    (hfit : off + cs.length ≤ cur.length) (h1 : ∀ v ∈ cs, v.oneCell' = true)
    (h : ∀ w', Hid (w'.heap[g]? = some (.cells (splice cur off cs).toArray t (0, 0))) → w.grownBy w' (some g) → K (a.put o.dst (goInt cs.length)) w') :
    if Region.wanted o (yielded ops a.tmps) = true then Oper.wp P o a w K Q else E := by
  have hw : Region.wanted o (yielded ops a.tmps) = true := by simp [Region.wanted, hgd]
  rw [if_pos hw]
  by_cases h0 : cs.length = 0
  · obtain rfl : cs = [] := List.eq_nil_of_length_eq_zero h0
    have hrun := run_copy_none (P := P) w dT sT o.type elem dp sp dLen dCap sLen sCap hu hsz (by simpa using hn.symm)
    unfold Oper.wp
    simp [execOp, ho, resolve, invoke, builtin, hd, hs, hrun, Result.andThen]
    exact h w (show _ = _ by simpa [splice] using hg) ⟨rfl, rfl, rfl, Nat.le_refl _, fun _ _ _ => rfl⟩
  · obtain ⟨rfl, ad, rfl, hsrc⟩ := hpos (by omega)
    have hrun := run_copy_row (P := P) w dT sT o.type elem g off dLen dCap ad sLen sCap cur.toArray t cs hu hsz hg hn hsrc (by simpa using hfit) h1
    unfold Oper.wp
    simp [execOp, ho, resolve, invoke, builtin, hd, hs, hrun, Result.andThen]
    exact h _ (show _ = _ by simpa [splice] using setRow_heap w g _ _ t _ hg) (grownBy_setRow _ _ _)

theorem infoI' : (Tryd.prog.info? 3).map (fun i => (i.zero, i.size, i.bytes)) = some (some (.int .i64 0), 1, 8) := by kernel_rfl

theorem sizeI : (Tryd.prog.info? 3).map (·.size) = some 1 := by kernel_rfl

/-- A number more in a rising list. -/
def insL (l : List Int) (n : Int) : List Int := if n ∈ l then l else l.filter (fun x => decide (x < n)) ++ n :: l.filter (fun x => decide (n < x))

theorem rising_at {l : List Int} (h : l.Pairwise (· < ·)) {i j : Nat} (hij : i < j) (hj : j < l.length) : l[i]?.getD 0 < l[j]?.getD 0 := by
  have := List.pairwise_iff_getElem.1 h i j (by omega) hj hij
  simpa [show i < l.length by omega, hj] using this

theorem filters_at {l : List Int} (hs : l.Pairwise (· < ·)) {n : Int} {a : Nat} (ha : a ≤ l.length) (hlo : ∀ j, j < a → l[j]?.getD 0 < n) (hhi : ∀ j, a ≤ j → j < l.length → n < l[j]?.getD 0) :
    l.filter (fun x => decide (x < n)) = l.take a ∧ l.filter (fun x => decide (n < x)) = l.drop a := by
  have e : l = l.take a ++ l.drop a := (List.take_append_drop a l).symm
  have h1 : ∀ x ∈ l.take a, x < n := fun x hx => by
    obtain ⟨j, hj, rfl⟩ := List.mem_iff_getElem.1 hx
    have := hlo j (by simp at hj; omega)
    simp at hj
    simpa [List.getElem_take, show j < l.length by omega] using this
  have h2 : ∀ x ∈ l.drop a, n < x := fun x hx => by
    obtain ⟨j, hj, rfl⟩ := List.mem_iff_getElem.1 hx
    simp at hj
    have := hhi (a + j) (by omega) (by omega)
    simpa [List.getElem_drop, show a + j < l.length by omega] using this
  constructor
  · conv => lhs; rw [e]
    rw [List.filter_append, List.filter_eq_self.2 (fun x hx => by simpa using h1 x hx), List.filter_eq_nil_iff.2 (fun x hx => by have := h2 x hx; simp; omega), List.append_nil]
  · conv => lhs; rw [e]
    rw [List.filter_append, List.filter_eq_nil_iff.2 (fun x hx => by have := h1 x hx; simp; omega), List.filter_eq_self.2 (fun x hx => by simpa using h2 x hx), List.nil_append]

theorem insL_new {l : List Int} (hs : l.Pairwise (· < ·)) {n : Int} {a : Nat} (ha : a ≤ l.length) (hlo : ∀ j, j < a → l[j]?.getD 0 < n) (hhi : ∀ j, a ≤ j → j < l.length → n ≤ l[j]?.getD 0) (hne : a < l.length → l[a]?.getD 0 ≠ n) :
    insL l n = l.take a ++ n :: l.drop a := by
  have hhi' : ∀ j, a ≤ j → j < l.length → n < l[j]?.getD 0 := fun j h1 h2 => by
    have h3 := hhi a (Nat.le_refl _) (by omega)
    have h4 := hne (by omega)
    rcases Nat.lt_or_ge a j with h | h
    · have := rising_at hs h h2; omega
    · have : j = a := by omega
      subst this; omega
  obtain ⟨e1, e2⟩ := filters_at hs ha hlo hhi'
  have hn : n ∉ l := fun hx => by
    obtain ⟨j, hj, e⟩ := List.mem_iff_getElem.1 hx
    rcases Nat.lt_or_ge j a with h | h
    · have := hlo j h; simp [hj, e] at this
    · have := hhi' j h hj; simp [hj, e] at this
  rw [insL, if_neg hn, e1, e2]

theorem src_at {W : World} {g1 a : Nat} {cur : Array Value} {l0 : List Int} {T : TypeId} (hh : W.heap[g1]? = some (.cells cur.toList.toArray T (0, 0))) (ht : cur.toList.take (l0.length + 1) = encs (Value.int .i64) (l0 ++ [0])) {j : Nat} {v : Value} (hj : ((l0.drop a).map I64)[j]? = some v) :
    W.cell? ((⟨g1, a, none⟩ : Addr).add j) = some v := by
  have hl : a + j < l0.length := by
    have := (List.getElem?_eq_some_iff.1 hj).1
    simp at this; omega
  have ea : (⟨g1, a, none⟩ : Addr).add j = ⟨g1, a + j, none⟩ := by unfold Addr.add; split <;> simp_all
  have e := congrArg (fun l : List Value => l[a + j]?) ht
  simp only [List.getElem?_take_of_lt (show a + j < l0.length + 1 by omega)] at e
  have e2 : (encs (Value.int .i64) (l0 ++ [0]))[a + j]? = some v := by
    simp only [encs, List.map_append, List.map_drop, List.getElem?_drop] at hj ⊢
    rw [List.getElem?_append_left (by simpa using hl)]
    exact hj
  rw [ea, World.cell?]
  simp only [hh]
  rw [e2] at e
  simpa using e

theorem set_mid {l0 : List Int} {a : Nat} (h : a < l0.length) {n : Int} : (l0.take (a + 1) ++ l0.drop a).set a n = l0.take a ++ n :: l0.drop a := by
  rw [List.take_succ_eq_append_getElem h, List.append_assoc, List.set_append_right _ _ (by simp; omega)]
  simp [show a - min a l0.length = 0 by omega]

theorem put_row {W : World} {g1 a cap1 base : Nat} {cur : Array Value} {cs : List Value} {l0 : List Int} {ok : Nat → Prop} (hal : a < l0.length) (ht : cur.toList.take (l0.length + 1) = encs (Value.int .i64) (l0 ++ [0])) (hcs : cs = (l0.drop a).map I64) (hcl : cs.length = l0.length - a) (hcur : cur.toList.length = cap1)
    (hh : W.heap[g1]? = some (.cells (splice cur.toList (a + 1) cs).toArray 3 (0, 0))) (hb : base ≤ g1) (hn : l0.length + 1 ≤ cap1) (hc : cap1 ≤ maxLen) (hok : ok g1) :
    Kd.R (Kd.int .i64) 3 W base ok (.slice (some ⟨g1, 0, none⟩) (l0.length + 1) cap1) (l0.take (a + 1) ++ l0.drop a) ∧ (∃ x, W.cell? ⟨g1, a, none⟩ = some x) ∧ W.frozen? ⟨g1, a, none⟩ = false := by
  have hcur' : cur.size = cap1 := by simpa using hcur
  have e0 : (splice cur.toList (a + 1) cs).take (l0.length + 1) = (l0.take (a + 1) ++ l0.drop a).map I64 := by
    unfold splice
    rw [← List.append_assoc, List.take_append_of_le_length (by simp; omega), List.take_of_length_le (by simp; omega), List.map_append, hcs]
    congr 1
    have := congrArg (List.take (a + 1)) ht
    rw [List.take_take, Nat.min_eq_left (by omega)] at this
    rw [this, encs, ← List.map_take, List.take_append_of_le_length (by omega)]
  have hlen : (l0.take (a + 1) ++ l0.drop a).length = l0.length + 1 := by simp; omega
  have ho : W.ownsRow base 3 1 (.slice (some ⟨g1, 0, none⟩) (l0.length + 1) cap1) (l0.length + 1) ((l0.take (a + 1) ++ l0.drop a).map I64) :=
    ⟨by rw [List.length_map, hlen]; omega, .inr ⟨g1, cap1, _, rfl, hb, hh, hn, hc, by simp [length_splice _ _ _ (show a + 1 + cs.length ≤ cur.toList.length by omega)]; simpa using hcur, by rw [Nat.mul_one]; simpa using e0⟩⟩
  refine ⟨?_, ?_, ?_⟩
  · refine Kd.R_of_own ?_ (fun k hk => ?_)
    · rw [hlen]; exact ho
    · simp [Value.ownBlock] at hk; subst hk; exact hok
  · have := ho.cellAt a (by omega)
    rw [this]
    exact ⟨_, List.getElem?_eq_getElem (by rw [List.length_map, hlen]; omega)⟩
  · exact ho.frozenAt a

theorem insL_old {l : List Int} {n : Int} (hs : l.Pairwise (· < ·)) {a : Nat} (ha : a < l.length) (h : l[a]?.getD 0 = n) : insL l n = l := by
  unfold insL
  rw [if_pos]
  rw [← h]
  simp [ha]

theorem put_ends {w0 w w1 w4 : World} {P0_ : Nat → Prop} {g g1 n1 c1 n c a : Nat} {u : Value} (hb1 : Below w0.heap.size w0 w1) (hg1 : w.grownBy w1 (Value.slice (some ⟨g, 0, none⟩) n c).ownBlock)
    (hat1 : (Value.slice (some ⟨g1, 0, none⟩) n1 c1).ownBlock = (Value.slice (some ⟨g, 0, none⟩) n c).ownBlock ∨ ∃ b, (Value.slice (some ⟨g1, 0, none⟩) n1 c1).ownBlock = some b ∧ w.heap.size ≤ b) (hP : P0_ g) (hg1b : w0.heap.size ≤ g1) (hb4 : w1.drew.grownBy w4 (some g1)) (_ : ∀ k : Nat, k = k → k = k) :
    Below w0.heap.size w0 (w4.setCell ⟨g1, a, none⟩ u) ∧ Kept w (w4.setCell ⟨g1, a, none⟩ u) (fun k_ => P0_ k_) := by
  have s1 : w1.heap.size ≤ w4.heap.size := hb4.size
  refine ⟨((below_drew1 hb1).grown hb4 (by have := hb1.size; exact this) (fun k e => by cases e; exact hg1b)).setCell (p := ⟨g1, a, none⟩) hg1b _, ?_, ?_⟩
  · have : (w4.setCell ⟨g1, a, none⟩ u).heap.size = w4.heap.size := by simp [World.setCell]
    rw [this]
    exact Nat.le_trans hg1.size s1
  · intro i hi hn
    have hig : i ≠ g := fun e => hn (by rw [e]; exact hP)
    have hig1 : i ≠ g1 := by
      rcases hat1 with h | ⟨b, h, hb⟩
      · simp [Value.ownBlock] at h; omega
      · simp [Value.ownBlock] at h; omega
    have e1 := Below.heap_setCell w4 ⟨g1, a, none⟩ u i hig1
    have e2 := hb4.block i (by have := hg1.size; exact Nat.lt_of_lt_of_le hi this) (by simpa using hig1)
    have e3 := hg1.block i hi (by simpa [Value.ownBlock] using hig)
    exact e1.trans (e2.trans e3)

theorem put_row0 {w1 W : World} {g1 a cap1 base : Nat} {cur : Array Value} {l0 : List Int} {ok : Nat → Prop} (ho1 : Kd.R (Kd.int .i64) 3 w1 base ok (.slice (some ⟨g1, 0, none⟩) (l0.length + 1) cap1) (l0 ++ [0])) (hh1 : w1.drew.heap[g1]? = some (.cells cur.toList.toArray 3 (0, 0)))
    (hh : W.heap[g1]? = some (.cells (splice cur.toList a []).toArray 3 (0, 0))) :
    Kd.R (Kd.int .i64) 3 W base ok (.slice (some ⟨g1, 0, none⟩) (l0.length + 1) cap1) (l0 ++ [0]) ∧ (∃ x, W.cell? ⟨g1, l0.length, none⟩ = some x) ∧ W.frozen? ⟨g1, l0.length, none⟩ = false := by
  have e : splice cur.toList a [] = cur.toList := by simp [splice]
  rw [e] at hh
  have hR := Kd.R_of_own (h1 := fun _ => rfl) (own_move (Kd.own_of_R ho1) (w1 := W) (fun k hk => by
    have : g1 = k := by simpa [Value.ownBlock] using hk
    subst this
    exact hh.trans (show _ = w1.heap[g1]? from hh1.symm))) ho1.1
  have ho := Kd.own_of_R hR
  have hl : (l0 ++ [0]).length = l0.length + 1 := by simp
  rw [hl] at ho
  refine ⟨hR, ?_, ho.frozenAt _⟩
  rw [ho.cellAt l0.length (by omega)]
  exact ⟨_, List.getElem?_eq_getElem (by simp [encs])⟩

theorem put_ends0 {w0 w w1 w4 : World} {P0_ : Nat → Prop} {A : Option Addr} {g1 n1 c1 n c a : Nat} {u : Value} (hb1 : Below w0.heap.size w0 w1) (hg1 : w.grownBy w1 (Value.slice A n c).ownBlock)
    (hat1 : (Value.slice (some ⟨g1, 0, none⟩) n1 c1).ownBlock = (Value.slice A n c).ownBlock ∨ ∃ b, (Value.slice (some ⟨g1, 0, none⟩) n1 c1).ownBlock = some b ∧ w.heap.size ≤ b) (hP : ∀ k, (Value.slice A n c).ownBlock = some k → P0_ k) (hg1b : w0.heap.size ≤ g1) (hb4 : w1.drew.grownBy w4 (some g1)) :
    Below w0.heap.size w0 (w4.setCell ⟨g1, a, none⟩ u) ∧ Kept w (w4.setCell ⟨g1, a, none⟩ u) (fun k_ => P0_ k_) := by
  have s1 : w1.heap.size ≤ w4.heap.size := hb4.size
  refine ⟨((below_drew1 hb1).grown hb4 (by have := hb1.size; exact this) (fun k e => by cases e; exact hg1b)).setCell (p := ⟨g1, a, none⟩) hg1b _, ?_, ?_⟩
  · have : (w4.setCell ⟨g1, a, none⟩ u).heap.size = w4.heap.size := by simp [World.setCell]
    rw [this]
    exact Nat.le_trans hg1.size s1
  · intro i hi hn
    have hig : some i ≠ (Value.slice A n c).ownBlock := fun e => hn (hP i e.symm)
    have hig1 : i ≠ g1 := by
      rcases hat1 with h | ⟨b, h, hb⟩
      · intro e; subst e; exact hig h
      · simp [Value.ownBlock] at h; omega
    have e1 := Below.heap_setCell w4 ⟨g1, a, none⟩ u i hig1
    have e2 := hb4.block i (by have := hg1.size; exact Nat.lt_of_lt_of_le hi this) (by simpa using hig1)
    have e3 := hg1.block i hi hig
    exact e1.trans (e2.trans e3)

set_option maxRecDepth 100000 in
set_option maxHeartbeats 4000000 in
theorem put_calls (P0_ : Nat → Prop) (u9000_ : Value) (l0 : List Int) (a1 : Int) (w0 w : World) (hB : Below w0.heap.size w0 w) (ho0 : Kd.R (Kd.int .i64) 3 w w0.heap.size P0_ u9000_ l0) (hs : l0.Pairwise (· < ·)) (hlen : l0.length < 17592186044416) :
    Calls Tryd.prog 34 #[u9000_, .int .i64 a1] w fun e w' => ∃ v0_ : Value, e = .returned v0_ ∧ Kd.R (Kd.int .i64) 3 w' w0.heap.size (fun k_ => (P0_ k_ ∨ w.heap.size ≤ k_)) v0_ (insL l0 a1) ∧ Below w0.heap.size w0 w' ∧ Kept w w' (fun k_ => P0_ k_) := by
  obtain ⟨A, c, rfl, hlc, hC⟩ := Kd.R_reads ho0
  have hcells : 0 < l0.length → ∃ g, A = some ⟨g, 0, none⟩ ∧ ∀ j, j < l0.length → w.cell? ⟨g, j, none⟩ = some (.int .i64 (l0[j]?.getD 0)) := by
    intro hn
    have ho := Kd.own_of_R ho0
    rcases ho.2 with ⟨h1, h2⟩ | ⟨g, cap, cur, h1, _⟩
    · omega
    · injection h1 with h1
      subst h1
      refine ⟨g, rfl, fun j hj => ?_⟩
      have := ho.cells (g := g) rfl j (.int .i64 (l0[j]?.getD 0)) (by simp [encs, hj])
      have ea : (⟨g, 0, none⟩ : Addr).add j = ⟨g, j, none⟩ := by unfold Addr.add; split <;> simp_all
      rwa [ea] at this
  have Hs := Lib.hid hs
  clear hs hC
  go_enter Tryd.func34, Tryd.ntmps34
  go_wp2
  go_loop [5, 6] (fun lo hi => ∃ a b : Nat, a ≤ b ∧ b ≤ l0.length ∧ lo = .int .i64 a ∧ hi = .int .i64 b ∧ Hid (∀ j, j < a → l0[j]?.getD 0 < a1) ∧ Hid (∀ j, b ≤ j → j < l0.length → a1 ≤ l0[j]?.getD 0)) (fun lo hi => (intOf hi).toNat - (intOf lo).toNat)
  case atStart => exact ⟨0, l0.length, by omega, by omega, rfl, rfl, Lib.hid (fun j h => by omega), Lib.hid (fun j h1 h2 => by omega)⟩
  case round =>
    obtain ⟨a, b, hab, hbl, rfl, rfl, Hlo, Hhi⟩ := hrel
    by_cases hlt : a < b
    · obtain ⟨g, rfl, hcs⟩ := hcells (by omega)
      obtain ⟨u, hu⟩ : ∃ u, u = l0[(a + b) / 2]?.getD 0 := ⟨_, rfl⟩
      have hcell : w.cell? ⟨g, (a + b) / 2, none⟩ = some (.int .i64 u) := by rw [hu]; exact hcs _ (by omega)
      have Hu := Lib.hid hu
      clear hcs hcells
      have hs := Hs.out
      by_cases hua : u < a1
      · have H1 : Hid (∀ j, j < (a + b) / 2 + 1 → l0[j]?.getD 0 < a1) := Lib.hid (fun j hj => by
          rcases Nat.lt_or_ge j ((a + b) / 2) with h | h
          · have := rising_at hs h (by omega); omega
          · have : j = (a + b) / 2 := by omega
            subst this; omega)
        clear hu hs
        go_wp2
        go_round
        case rel => exact ⟨(a + b) / 2 + 1, b, by omega, by omega, by go_num, rfl, H1, Hhi⟩
        case measure => simp [intOf]; omega
      · have H1 : Hid (∀ j, (a + b) / 2 ≤ j → j < l0.length → a1 ≤ l0[j]?.getD 0) := Lib.hid (fun j h1 h2 => by
          rcases Nat.lt_or_ge ((a + b) / 2) j with h | h
          · have := rising_at hs h h2; omega
          · have : j = (a + b) / 2 := by omega
            subst this; omega)
        clear hu hs
        go_wp2
        go_round
        case rel => exact ⟨a, (a + b) / 2, by omega, by omega, rfl, by go_num, Hlo, H1⟩
        case measure => simp [intOf]; omega
    · obtain rfl : a = b := by omega
      by_cases hal : a < l0.length
      · obtain ⟨g, rfl, hcs⟩ := hcells (by omega)
        obtain ⟨u, hu⟩ : ∃ u, u = l0[a]?.getD 0 := ⟨_, rfl⟩
        have hcell : w.cell? ⟨g, a, none⟩ = some (.int .i64 u) := by rw [hu]; exact hcs _ (by omega)
        by_cases hua : u = a1
        · have Hi := Lib.hid (insL_old Hs.out hal (hu ▸ hua))
          subst hua
          clear hu hcs hcells
          go_wp2
          go_ret
          exact ⟨_, rfl, by rw [Hi.out]; exact Kd.R_mono ho0 (fun _ hk => .inl hk), hB, Kept.refl _ _⟩
        · have hins := insL_new Hs.out hbl Hlo.out Hhi.out (fun _ => by rw [← hu]; exact hua)
          have Hins := Lib.hid hins
          have hua' : (u == a1) = false := beq_eq_false_iff_ne.2 hua
          clear hins hua hu hcs hcells
          go_wp2_with (at_builtin; go_must (refine Kd.R_append (Kd.int .i64) (w0 := w0) w0.heap.size rfl _ _ 38 3 (.int .i64 0) 8 rfl Tryd.underlying38 infoI' rfl (by decide) (by omega) (.slice (some ⟨g, 0, none⟩) l0.length c) l0 0 [.int .i64 0] (fun k_ => P0_ k_ ∨ w.heap.size ≤ k_) (fun _ => False) rfl rfl rfl (fun _ hk => hk.elim) (fun _ hk => .inr hk) (Kd.R_mono ho0 (fun _ hk => .inl hk)) hB hB.size (by omega) ?_); intro v1 w1 ho1 hb1 hg1 hat1)
          have hl1 : (l0 ++ [0]).length = l0.length + 1 := by simp
          rcases (Kd.own_of_R ho1).2 with ⟨_, hz⟩ | ⟨g1, cap1, cur, rfl, hg1b, hh1, hn1, hc1, hsz1, ht1⟩
          · rw [hl1] at hz; omega
          rw [hl1] at *
          rw [Nat.mul_one] at hsz1 ht1
          have hh1' : w1.drew.heap[g1]? = some (.cells cur.toList.toArray 3 (0, 0)) := by rw [Array.toArray_toList]; exact hh1
          have Ht1 := Lib.hid ht1
          have Hh1 := Lib.hid hh1'
          have HL := Lib.hid hl1
          clear hh1 hh1' ht1 hl1
          obtain ⟨cs, hcs⟩ : ∃ cs, cs = (l0.drop a).map I64 := ⟨_, rfl⟩
          have hcl : cs.length = l0.length - a := by rw [hcs]; simp
          have hcur : cur.toList.length = cap1 := by simpa using hsz1
          have Hcl := Lib.hid hcl
          have Hcur := Lib.hid hcur
          have Hcs := Lib.hid hcs
          clear hcl hcur hcs hsz1
          have q1 : IntKind.i64.wrap ((a : Int) + 1) = (a : Int) + 1 := IntWalk.i64_in _ (by omega)
          have q2 : (0 : Int) ≤ (a : Int) + 1 := by omega
          have q3 : ((a : Int) + 1).toNat = a + 1 := by omega
          have q4 : (a : Int) + 1 ≤ (l0.length : Int) + 1 := by omega
          have q5 : ¬ cap1 = a + 1 := by omega
          have q6 : ¬ cap1 = a := by omega
          have q7 : (a : Int) ≤ (l0.length : Int) + 1 := by omega
          go_region_law (refine step_copy_grown rfl (.tmp 45) (.tmp 48) 38 38 rfl 3 Tryd.underlying38 sizeI (some ⟨g1, a + 1, none⟩) (some ⟨g1, a, none⟩) (l0.length + 1 - (a + 1)) (cap1 - (a + 1)) (l0.length + 1 - a) (cap1 - a) ?b1 ?b2 g1 (a + 1) cur.toList 3 Hh1.out cs ?a1 ?a2 ?a3 ?a4 ?_; (case b1 => go_simp); (case b2 => go_simp); (case a1 => rw [Hcl.out]; exact (show _ = min _ _ from by omega)); (case a2 => exact fun _ => ⟨rfl, _, rfl, fun j v hj => src_at Hh1.out Ht1.out (by rw [← Hcs.out]; exact hj)⟩); (case a3 => rw [Hcl.out, Hcur.out]; omega); (case a4 => rw [Hcs.out]; intro v hv; obtain ⟨_, _, rfl⟩ := List.mem_map.1 hv; rfl); intro w4 hg4 hb4)
          clear q1 q2 q3 q4 q5 q6 q7
          obtain ⟨hR4, ⟨x4, hca⟩, hfa⟩ := put_row (base := w0.heap.size) (ok := fun k_ => P0_ k_ ∨ w.heap.size ≤ k_) hal Ht1.out Hcs.out Hcl.out Hcur.out hg4.out hg1b (by omega) hc1 (ho1.1 g1 rfl)
          clear Ht1 Hh1 HL hg4 Hcl Hcur
          go_wp2
          go_ret
          refine ⟨_, rfl, ?_, ?_⟩
          · have := Kd.R_putn hR4 (a : Int) a1
            rw [Int.toNat_natCast] at this
            rw [Hins.out, ← set_mid hal]
            exact this
          · exact put_ends hb1 hg1 hat1 (ho0.1 g rfl) hg1b hb4 (fun k h => h)
        done
      · obtain rfl : a = l0.length := by omega
        have hins := insL_new Hs.out hbl Hlo.out Hhi.out (fun h => by omega)
        rw [List.take_of_length_le (by omega), List.drop_eq_nil_of_le (by omega)] at hins
        have Hins := Lib.hid hins
        clear hins hcells
        go_wp2_with (at_builtin; go_must (refine Kd.R_append (Kd.int .i64) (w0 := w0) w0.heap.size rfl _ _ 38 3 (.int .i64 0) 8 rfl Tryd.underlying38 infoI' rfl (by decide) (by omega) (.slice A l0.length c) l0 0 [.int .i64 0] (fun k_ => P0_ k_ ∨ w.heap.size ≤ k_) (fun _ => False) rfl rfl rfl (fun _ hk => hk.elim) (fun _ hk => .inr hk) (Kd.R_mono ho0 (fun _ hk => .inl hk)) hB hB.size (by omega) ?_); intro v1 w1 ho1 hb1 hg1 hat1)
        have hl1 : (l0 ++ [0]).length = l0.length + 1 := by simp
        rcases (Kd.own_of_R ho1).2 with ⟨_, hz⟩ | ⟨g1, cap1, cur, rfl, hg1b, hh1, hn1, hc1, hsz1, ht1⟩
        · rw [hl1] at hz; omega
        rw [hl1] at *
        rw [Nat.mul_one] at hsz1 ht1
        have hh1' : w1.drew.heap[g1]? = some (.cells cur.toList.toArray 3 (0, 0)) := by rw [Array.toArray_toList]; exact hh1
        have Ht1 := Lib.hid ht1
        have Hh1 := Lib.hid hh1'
        have hcur : cur.toList.length = cap1 := by simpa using hsz1
        have Hcur := Lib.hid hcur
        clear hh1 hh1' ht1 hl1 hcur hsz1
        by_cases q5 : cap1 = l0.length + 1
        · subst q5
          have q1 : IntKind.i64.wrap ((l0.length : Int) + 1) = (l0.length : Int) + 1 := IntWalk.i64_in _ (by omega)
          have q2 : (0 : Int) ≤ (l0.length : Int) + 1 := by omega
          have q3 : ((l0.length : Int) + 1).toNat = l0.length + 1 := by omega
          have q4 : (l0.length : Int) + 1 ≤ (l0.length : Int) + 1 := by omega
          have q6 : ¬ l0.length + 1 = l0.length := by omega
          have q7 : (l0.length : Int) ≤ (l0.length : Int) + 1 := by omega
          go_region_law (refine step_copy_grown rfl (.tmp 45) (.tmp 48) 38 38 rfl 3 Tryd.underlying38 sizeI (some ⟨g1, 0, none⟩) (some ⟨g1, l0.length, none⟩) (l0.length + 1 - (l0.length + 1)) (l0.length + 1 - (l0.length + 1)) (l0.length + 1 - l0.length) (l0.length + 1 - l0.length) ?b1 ?b2 g1 (l0.length + 1) cur.toList 3 Hh1.out [] ?a1 ?a2 ?a3 ?a4 ?_; (case b1 => go_simp); (case b2 => go_simp); (case a1 => exact (show _ = min _ _ from by simp)); (case a2 => exact fun h => absurd h (by simp)); (case a3 => rw [Hcur.out]; simp; try omega); (case a4 => exact fun v hv => absurd hv (by simp)); intro w4 hg4 hb4)
          clear q1 q2 q3 q4 q6 q7
          obtain ⟨hR4, ⟨x4, hca⟩, hfa⟩ := put_row0 (a := l0.length + 1) ho1 Hh1.out hg4.out
          clear Ht1 Hh1 hg4 Hcur
          go_wp2
          go_ret
          refine ⟨_, rfl, ?_, ?_⟩
          · have := Kd.R_putn hR4 (l0.length : Int) a1
            rw [Int.toNat_natCast] at this
            rw [Hins.out]
            have e : (l0 ++ [0]).set l0.length a1 = l0 ++ [a1] := by rw [List.set_append_right _ _ (Nat.le_refl _)]; simp
            rw [e] at this
            exact this
          · exact put_ends0 hb1 hg1 hat1 ho0.1 hg1b hb4
        · skip
          have q1 : IntKind.i64.wrap ((l0.length : Int) + 1) = (l0.length : Int) + 1 := IntWalk.i64_in _ (by omega)
          have q2 : (0 : Int) ≤ (l0.length : Int) + 1 := by omega
          have q3 : ((l0.length : Int) + 1).toNat = l0.length + 1 := by omega
          have q4 : (l0.length : Int) + 1 ≤ (l0.length : Int) + 1 := by omega
          have q6 : ¬ cap1 = l0.length := by omega
          have q7 : (l0.length : Int) ≤ (l0.length : Int) + 1 := by omega
          go_region_law (refine step_copy_grown rfl (.tmp 45) (.tmp 48) 38 38 rfl 3 Tryd.underlying38 sizeI (some ⟨g1, l0.length + 1, none⟩) (some ⟨g1, l0.length, none⟩) (l0.length + 1 - (l0.length + 1)) (cap1 - (l0.length + 1)) (l0.length + 1 - l0.length) (cap1 - l0.length) ?b1 ?b2 g1 (l0.length + 1) cur.toList 3 Hh1.out [] ?a1 ?a2 ?a3 ?a4 ?_; (case b1 => go_simp); (case b2 => go_simp); (case a1 => exact (show _ = min _ _ from by simp)); (case a2 => exact fun h => absurd h (by simp)); (case a3 => rw [Hcur.out]; simp; try omega); (case a4 => exact fun v hv => absurd hv (by simp)); intro w4 hg4 hb4)
          clear q1 q2 q3 q4 q6 q7
          obtain ⟨hR4, ⟨x4, hca⟩, hfa⟩ := put_row0 (a := l0.length + 1) ho1 Hh1.out hg4.out
          clear Ht1 Hh1 hg4 Hcur
          go_wp2
          go_ret
          refine ⟨_, rfl, ?_, ?_⟩
          · have := Kd.R_putn hR4 (l0.length : Int) a1
            rw [Int.toNat_natCast] at this
            rw [Hins.out]
            have e : (l0 ++ [0]).set l0.length a1 = l0 ++ [a1] := by rw [List.set_append_right _ _ (Nat.le_refl _)]; simp
            rw [e] at this
            exact this
          · exact put_ends0 hb1 hg1 hat1 ho0.1 hg1b hb4
end Go.Proofs.YthaofmbjkdikbaaDoor.H
