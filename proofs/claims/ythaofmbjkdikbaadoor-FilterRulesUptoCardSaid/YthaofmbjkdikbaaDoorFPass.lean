/- Filter: whether a point passes a condition, as a function on trees; filter.of and filter.Passes come to it, for trees whose lists hold at most 1048576 each. -/
import Derived.Test.YthaofmbjkdikbaaDoorFA
namespace Go.Proofs.YthaofmbjkdikbaaDoor.F
open Go.RowKit Go.Lib Go.Sort Go.Shelf Go.Proofs.YthaofmbjkdikbaaDoorW.PrintWords Go.Proofs.YthaofmbjkdikbaaDoor.PAll Go.Proofs.YthaofmbjkdikbaaDoor.V
set_option linter.unusedVariables false
abbrev Cn := S26
/-- Every list within a condition is small. -/
inductive Small : Cn → Prop
  | mk (c : Cn) (h : c.f5.length ≤ 1048576) (hs : ∀ x, x ∈ c.f5 → Small x) : Small c
/-- What the test 'has the value of the name, and' says. -/
def isC (o : Option Va) (v : Va) : Bool := match o with | some x => decide (cmpV x v = 0) | none => false
def inC (o : Option Va) (lo hi : Int) : Bool := match o with | some x => (x.f0 == 1) && (decide (lo ≤ x.f1) && decide (x.f1 ≤ hi)) | none => false
theorem sizeOf_in {c x : Cn} (h : x ∈ c.f5) : SizeOf.sizeOf x < SizeOf.sizeOf c := by
  obtain ⟨c0, c1, c2, c3, c4, c5⟩ := c
  have := List.sizeOf_lt_of_mem h
  simp only [S26.mk.sizeOf_spec] at this ⊢
  omega
/-- Does a point with these fields pass? -/
def passC (fs : List Fi) (c : Cn) : Bool :=
  if c.f0 = 1 then true
  else if c.f0 = 2 then false
  else if c.f0 = 3 then (getV fs c.f1).isSome
  else if c.f0 = 4 then isC (getV fs c.f1) c.f2
  else if c.f0 = 5 then inC (getV fs c.f1) c.f3 c.f4
  else if c.f0 = 6 then decide (c.f5.length = 1) && (c.f5.map fun x => passC fs x).all fun b => !b
  else if c.f0 = 7 then (c.f5.map fun x => passC fs x).all fun b => b
  else if c.f0 = 8 then (c.f5.map fun x => passC fs x).any fun b => b
  else false
termination_by SizeOf.sizeOf c
decreasing_by all_goals exact sizeOf_in (by assumption)
def smallB (c : Cn) : Bool := decide (c.f5.length ≤ 1048576) && (c.f5.map fun x => smallB x).all fun b => b
termination_by SizeOf.sizeOf c
decreasing_by all_goals exact sizeOf_in (by assumption)
theorem smallB_of {c : Cn} (h : Small c) : smallB c = true := by
  induction h with
  | mk c h hs ih =>
    rw [smallB, decide_eq_true h, Bool.true_and, List.all_eq_true]
    intro b hb
    obtain ⟨x, hx, rfl⟩ := List.mem_map.1 hb
    exact ih x hx
theorem of_smallB : ∀ (n : Nat) (c : Cn), SizeOf.sizeOf c ≤ n → smallB c = true → Small c
  | 0, c, h, _ => by
    obtain ⟨c0, c1, c2, c3, c4, c5⟩ := c
    simp only [S26.mk.sizeOf_spec] at h
    omega
  | n + 1, c, h, hb => by
    rw [smallB, Bool.and_eq_true, List.all_eq_true] at hb
    refine .mk c (of_decide_eq_true hb.1) fun x hx => of_smallB n x ?_ (hb.2 _ (List.mem_map.2 ⟨x, hx, rfl⟩))
    have := sizeOf_in hx
    omega
theorem smallB_iff {c : Cn} : smallB c = true ↔ Small c := ⟨of_smallB _ c (Nat.le_refl _), smallB_of⟩
theorem kinds (z : Int) : z = 1 ∨ z = 2 ∨ z = 3 ∨ z = 4 ∨ z = 5 ∨ z = 6 ∨ z = 7 ∨ z = 8 ∨ (z ≠ 1 ∧ z ≠ 2 ∧ z ≠ 3 ∧ z ≠ 4 ∧ z ≠ 5 ∧ z ≠ 6 ∧ z ≠ 7 ∧ z ≠ 8) := by omega
theorem conds_of_C {w : World} {A : Option Addr} {xs : List Cn} (h : Kd.C k26 w A xs.length xs) (hn : 0 < xs.length) :
    ∃ b off, A = some ⟨b, off, none⟩ ∧ b < w.heap.size ∧ ∀ j (hj : j < xs.length), ∃ A7 c7, w.cell? ⟨b, off + j * 8, none⟩ = some (.int .i64 xs[j].f0) ∧ w.cell? ⟨b, off + j * 8 + 1, none⟩ = some (.string xs[j].f1) ∧ w.cell? ⟨b, off + j * 8 + 2, none⟩ = some (.int .i64 xs[j].f2.f0) ∧ w.cell? ⟨b, off + j * 8 + 3, none⟩ = some (.int .i64 xs[j].f2.f1) ∧ w.cell? ⟨b, off + j * 8 + 4, none⟩ = some (.string xs[j].f2.f2) ∧ w.cell? ⟨b, off + j * 8 + 5, none⟩ = some (.int .i64 xs[j].f3) ∧ w.cell? ⟨b, off + j * 8 + 6, none⟩ = some (.int .i64 xs[j].f4) ∧ w.cell? ⟨b, off + j * 8 + 7, none⟩ = some (.slice A7 xs[j].f5.length c7) ∧ xs[j].f5.length ≤ c7 ∧ Kd.C k26 w A7 xs[j].f5.length xs[j].f5 := by
  obtain ⟨ad, A7, c7, rfl, h00, -⟩ := at_T26 h 0 (Int.le_refl _) (by omega)
  obtain ⟨b, off, sp⟩ := ad
  have hsp : sp = none := by
    cases sp with
    | none => rfl
    | some s =>
      simp only [Int.toNat_zero, Nat.zero_mul, Addr.add, if_true, World.cell?] at h00
      split at h00 <;> simp at h00
  subst hsp
  have hb : b < w.heap.size := World.block_lt_of_cell? w _ h00
  refine ⟨b, off, rfl, hb, fun j hj => ?_⟩
  obtain ⟨ad, A7, c7, e, h1, h2, h3, h4, h5, h6, h7, h8, h9, h10⟩ := at_T26 h (j : Int) (by omega) (by omega)
  cases e
  have ea : ((⟨b, off, none⟩ : Addr).add ((j : Int).toNat * 8)) = ⟨b, off + j * 8, none⟩ := by unfold Addr.add; split <;> simp_all
  rw [ea] at h1 h2 h3 h4 h5 h6 h7 h8
  have er : rd_T26 xs (j : Int) = xs[j] := by unfold rd_T26; simp [hj]
  rw [er] at h1 h2 h3 h4 h5 h6 h7 h8 h9 h10
  exact ⟨A7, c7, h1, h2, h3, h4, h5, h6, h7, h8, h9, h10⟩
/-! ### the type switch -/
theorem zero_always : (Tryd.prog.info? 50).map (·.zero) = some (some (.bool false)) := by kernel_rfl
@[go_sem] theorem ta_always (v : Value) (xT : TypeId) (w : World) : (Instr.typeAssert (.iface 50 v) xT 50 true).run Tryd.prog w = .ok (.tuple #[v, .bool true]) w := by
  simp [Instr.typeAssert, run_underlying Tryd.underlying50, go_sem, Result.andThen]
@[go_sem] theorem tn_always (t : TypeId) (ht : t ≠ 50) (v : Value) (xT : TypeId) (w : World) : (Instr.typeAssert (.iface t v) xT 50 true).run Tryd.prog w = .ok (.tuple #[.bool false, .bool false]) w := by
  obtain ⟨i, hi, hz⟩ := Option.map_eq_some_iff.1 zero_always
  simp [Instr.typeAssert, run_underlying Tryd.underlying50, go_sem, Result.andThen, ht, zeroValue, hi, hz, typeInfo]
@[go_sem] theorem tz_always (xT : TypeId) (w : World) : (Instr.typeAssert .nilIface xT 50 true).run Tryd.prog w = .ok (.tuple #[.bool false, .bool false]) w := by
  obtain ⟨i, hi, hz⟩ := Option.map_eq_some_iff.1 zero_always
  simp [Instr.typeAssert, run_underlying Tryd.underlying50, go_sem, Result.andThen, zeroValue, hi, hz, typeInfo]
theorem zero_has : (Tryd.prog.info? 51).map (·.zero) = some (some (.string ByteArray.empty)) := by kernel_rfl
@[go_sem] theorem ta_has (v : Value) (xT : TypeId) (w : World) : (Instr.typeAssert (.iface 51 v) xT 51 true).run Tryd.prog w = .ok (.tuple #[v, .bool true]) w := by
  simp [Instr.typeAssert, run_underlying Tryd.underlying51, go_sem, Result.andThen]
@[go_sem] theorem tn_has (t : TypeId) (ht : t ≠ 51) (v : Value) (xT : TypeId) (w : World) : (Instr.typeAssert (.iface t v) xT 51 true).run Tryd.prog w = .ok (.tuple #[.string ByteArray.empty, .bool false]) w := by
  obtain ⟨i, hi, hz⟩ := Option.map_eq_some_iff.1 zero_has
  simp [Instr.typeAssert, run_underlying Tryd.underlying51, go_sem, Result.andThen, ht, zeroValue, hi, hz, typeInfo]
@[go_sem] theorem tz_has (xT : TypeId) (w : World) : (Instr.typeAssert .nilIface xT 51 true).run Tryd.prog w = .ok (.tuple #[.string ByteArray.empty, .bool false]) w := by
  obtain ⟨i, hi, hz⟩ := Option.map_eq_some_iff.1 zero_has
  simp [Instr.typeAssert, run_underlying Tryd.underlying51, go_sem, Result.andThen, zeroValue, hi, hz, typeInfo]
theorem zero_is : (Tryd.prog.info? 55).map (·.zero) = some (some (.agg #[.string ByteArray.empty, .int .i64 0, .int .i64 0, .string ByteArray.empty])) := by kernel_rfl
@[go_sem] theorem ta_is (v : Value) (xT : TypeId) (w : World) : (Instr.typeAssert (.iface 55 v) xT 55 true).run Tryd.prog w = .ok (.tuple #[v, .bool true]) w := by
  simp [Instr.typeAssert, run_underlying Tryd.underlying55, go_sem, Result.andThen]
@[go_sem] theorem tn_is (t : TypeId) (ht : t ≠ 55) (v : Value) (xT : TypeId) (w : World) : (Instr.typeAssert (.iface t v) xT 55 true).run Tryd.prog w = .ok (.tuple #[.agg #[.string ByteArray.empty, .int .i64 0, .int .i64 0, .string ByteArray.empty], .bool false]) w := by
  obtain ⟨i, hi, hz⟩ := Option.map_eq_some_iff.1 zero_is
  simp [Instr.typeAssert, run_underlying Tryd.underlying55, go_sem, Result.andThen, ht, zeroValue, hi, hz, typeInfo]
@[go_sem] theorem tz_is (xT : TypeId) (w : World) : (Instr.typeAssert .nilIface xT 55 true).run Tryd.prog w = .ok (.tuple #[.agg #[.string ByteArray.empty, .int .i64 0, .int .i64 0, .string ByteArray.empty], .bool false]) w := by
  obtain ⟨i, hi, hz⟩ := Option.map_eq_some_iff.1 zero_is
  simp [Instr.typeAssert, run_underlying Tryd.underlying55, go_sem, Result.andThen, zeroValue, hi, hz, typeInfo]
theorem zero_within : (Tryd.prog.info? 58).map (·.zero) = some (some (.agg #[.string ByteArray.empty, .int .i64 0, .int .i64 0])) := by kernel_rfl
@[go_sem] theorem ta_within (v : Value) (xT : TypeId) (w : World) : (Instr.typeAssert (.iface 58 v) xT 58 true).run Tryd.prog w = .ok (.tuple #[v, .bool true]) w := by
  simp [Instr.typeAssert, run_underlying Tryd.underlying58, go_sem, Result.andThen]
@[go_sem] theorem tn_within (t : TypeId) (ht : t ≠ 58) (v : Value) (xT : TypeId) (w : World) : (Instr.typeAssert (.iface t v) xT 58 true).run Tryd.prog w = .ok (.tuple #[.agg #[.string ByteArray.empty, .int .i64 0, .int .i64 0], .bool false]) w := by
  obtain ⟨i, hi, hz⟩ := Option.map_eq_some_iff.1 zero_within
  simp [Instr.typeAssert, run_underlying Tryd.underlying58, go_sem, Result.andThen, ht, zeroValue, hi, hz, typeInfo]
@[go_sem] theorem tz_within (xT : TypeId) (w : World) : (Instr.typeAssert .nilIface xT 58 true).run Tryd.prog w = .ok (.tuple #[.agg #[.string ByteArray.empty, .int .i64 0, .int .i64 0], .bool false]) w := by
  obtain ⟨i, hi, hz⟩ := Option.map_eq_some_iff.1 zero_within
  simp [Instr.typeAssert, run_underlying Tryd.underlying58, go_sem, Result.andThen, zeroValue, hi, hz, typeInfo]
theorem zero_not : (Tryd.prog.info? 59).map (·.zero) = some (some (.slice none 0 0)) := by kernel_rfl
@[go_sem] theorem ta_not (v : Value) (xT : TypeId) (w : World) : (Instr.typeAssert (.iface 59 v) xT 59 true).run Tryd.prog w = .ok (.tuple #[v, .bool true]) w := by
  simp [Instr.typeAssert, run_underlying Tryd.underlying59, go_sem, Result.andThen]
@[go_sem] theorem tn_not (t : TypeId) (ht : t ≠ 59) (v : Value) (xT : TypeId) (w : World) : (Instr.typeAssert (.iface t v) xT 59 true).run Tryd.prog w = .ok (.tuple #[.slice none 0 0, .bool false]) w := by
  obtain ⟨i, hi, hz⟩ := Option.map_eq_some_iff.1 zero_not
  simp [Instr.typeAssert, run_underlying Tryd.underlying59, go_sem, Result.andThen, ht, zeroValue, hi, hz, typeInfo]
@[go_sem] theorem tz_not (xT : TypeId) (w : World) : (Instr.typeAssert .nilIface xT 59 true).run Tryd.prog w = .ok (.tuple #[.slice none 0 0, .bool false]) w := by
  obtain ⟨i, hi, hz⟩ := Option.map_eq_some_iff.1 zero_not
  simp [Instr.typeAssert, run_underlying Tryd.underlying59, go_sem, Result.andThen, zeroValue, hi, hz, typeInfo]
theorem zero_all : (Tryd.prog.info? 60).map (·.zero) = some (some (.slice none 0 0)) := by kernel_rfl
@[go_sem] theorem ta_all (v : Value) (xT : TypeId) (w : World) : (Instr.typeAssert (.iface 60 v) xT 60 true).run Tryd.prog w = .ok (.tuple #[v, .bool true]) w := by
  simp [Instr.typeAssert, run_underlying Tryd.underlying60, go_sem, Result.andThen]
@[go_sem] theorem tn_all (t : TypeId) (ht : t ≠ 60) (v : Value) (xT : TypeId) (w : World) : (Instr.typeAssert (.iface t v) xT 60 true).run Tryd.prog w = .ok (.tuple #[.slice none 0 0, .bool false]) w := by
  obtain ⟨i, hi, hz⟩ := Option.map_eq_some_iff.1 zero_all
  simp [Instr.typeAssert, run_underlying Tryd.underlying60, go_sem, Result.andThen, ht, zeroValue, hi, hz, typeInfo]
@[go_sem] theorem tz_all (xT : TypeId) (w : World) : (Instr.typeAssert .nilIface xT 60 true).run Tryd.prog w = .ok (.tuple #[.slice none 0 0, .bool false]) w := by
  obtain ⟨i, hi, hz⟩ := Option.map_eq_some_iff.1 zero_all
  simp [Instr.typeAssert, run_underlying Tryd.underlying60, go_sem, Result.andThen, zeroValue, hi, hz, typeInfo]
theorem zero_any : (Tryd.prog.info? 61).map (·.zero) = some (some (.slice none 0 0)) := by kernel_rfl
@[go_sem] theorem ta_any (v : Value) (xT : TypeId) (w : World) : (Instr.typeAssert (.iface 61 v) xT 61 true).run Tryd.prog w = .ok (.tuple #[v, .bool true]) w := by
  simp [Instr.typeAssert, run_underlying Tryd.underlying61, go_sem, Result.andThen]
@[go_sem] theorem tn_any (t : TypeId) (ht : t ≠ 61) (v : Value) (xT : TypeId) (w : World) : (Instr.typeAssert (.iface t v) xT 61 true).run Tryd.prog w = .ok (.tuple #[.slice none 0 0, .bool false]) w := by
  obtain ⟨i, hi, hz⟩ := Option.map_eq_some_iff.1 zero_any
  simp [Instr.typeAssert, run_underlying Tryd.underlying61, go_sem, Result.andThen, ht, zeroValue, hi, hz, typeInfo]
@[go_sem] theorem tz_any (xT : TypeId) (w : World) : (Instr.typeAssert .nilIface xT 61 true).run Tryd.prog w = .ok (.tuple #[.slice none 0 0, .bool false]) w := by
  obtain ⟨i, hi, hz⟩ := Option.map_eq_some_iff.1 zero_any
  simp [Instr.typeAssert, run_underlying Tryd.underlying61, go_sem, Result.andThen, zeroValue, hi, hz, typeInfo]
/-- The condition by its kind. -/
def ofV (c : Cn) (A : Option Addr) (n : Nat) : Value :=
  if c.f0 = 1 then .iface 50 (.bool true)
  else if c.f0 = 2 then .iface 50 (.bool false)
  else if c.f0 = 3 then .iface 51 (.string c.f1)
  else if c.f0 = 4 then .iface 55 (.agg #[.string c.f1, .int .i64 c.f2.f0, .int .i64 c.f2.f1, .string c.f2.f2])
  else if c.f0 = 5 then .iface 58 (.agg #[.string c.f1, .int .i64 c.f3, .int .i64 c.f4])
  else if c.f0 = 6 then .iface 59 (.slice A c.f5.length n)
  else if c.f0 = 7 then .iface 60 (.slice A c.f5.length n)
  else if c.f0 = 8 then .iface 61 (.slice A c.f5.length n)
  else .nilIface
set_option maxRecDepth 100000 in
set_option maxHeartbeats 1000000 in
theorem of_calls (c : Cn) (A : Option Addr) (n : Nat) (w : World) :
    Calls Tryd.prog 25 #[.agg #[.int .i64 c.f0, .string c.f1, .int .i64 c.f2.f0, .int .i64 c.f2.f1, .string c.f2.f2, .int .i64 c.f3, .int .i64 c.f4, .slice A c.f5.length n]] w fun e w' => e = .returned (ofV c A n) ∧ Below w.heap.size w w' := by
  obtain ⟨k, c1, ⟨v0, v1, v2⟩, c3, c4, c5⟩ := c
  have hb : Below w.heap.size w (w.alloc (.cells #[.int .i64 k, .string c1, .int .i64 v0, .int .i64 v1, .string v2, .int .i64 c3, .int .i64 c4, .slice A c5.length n] 26)) := (Below.refl _ w).alloc (Nat.le_refl _) _
  dsimp only
  rcases kinds k with rfl | rfl | rfl | rfl | rfl | rfl | rfl | rfl | ⟨h1, h2, h3, h4, h5, h6, h7, h8⟩
  case _ | _ | _ | _ | _ | _ | _ | _ =>
    go_enter Tryd.func25, Tryd.ntmps25
    go_wp2
    go_ret
    exact ⟨rfl, hb⟩
  have e1 : (k == 1) = false := by simp [h1]
  have e2 : (k == 2) = false := by simp [h2]
  have e3 : (k == 3) = false := by simp [h3]
  have e4 : (k == 4) = false := by simp [h4]
  have e5 : (k == 5) = false := by simp [h5]
  have e6 : (k == 6) = false := by simp [h6]
  have e7 : (k == 7) = false := by simp [h7]
  have e8 : (k == 8) = false := by simp [h8]
  have e : ofV ⟨k, c1, ⟨v0, v1, v2⟩, c3, c4, c5⟩ A n = .nilIface := by unfold ofV; simp [h1, h2, h3, h4, h5, h6, h7, h8]
  rw [e]
  clear e h1 h2 h3 h4 h5 h6 h7 h8
  go_enter Tryd.func25, Tryd.ntmps25
  go_wp2
  go_ret
  exact ⟨rfl, hb⟩
end Go.Proofs.YthaofmbjkdikbaaDoor.F
