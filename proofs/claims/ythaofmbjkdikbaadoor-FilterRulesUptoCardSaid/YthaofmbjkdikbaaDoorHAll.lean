/- Contracts of lodestar/ids's All: the closure that it hands back goes over what stands in one list at least; a range over it. -/
import Derived.Test.YthaofmbjkdikbaaDoorHIds
import Derived.RangeFuncBox
import Derived.RangeFuncLeaves
import Derived.RangeFuncBound
import Derived.RangeFuncCalls
import Derived.RangeFuncNested
import Derived.Shelf.Abstract
import Derived.Shelf.RegionOpen
import Derived.OwnWalkIn
import Derived.TacticsInMore
import Derived.LoopNIn
import Derived.LoopIn
import Derived.Maps.AppendAt
import Derived.Sort.BigQuietIn
import Derived.Outline
import Derived.Lib.Hide
namespace Go.Proofs.YthaofmbjkdikbaaDoor.H
open Go.RowKit Go.Shelf Go.Proofs.YthaofmbjkdikbaaDoorW.PrintWords
set_option linter.unusedVariables false
attribute [local go_sem] Oper.semAt_some

/-- What All goes over: two rising lists, each number once, with where it stands. -/
def mg : List Int → List Int → List (Int × Int)
  | [], [] => []
  | a :: x, [] => (a, 1) :: mg x []
  | [], b :: y => (b, 2) :: mg [] y
  | a :: x, b :: y => if a < b then (a, 1) :: mg x (b :: y) else if b < a then (b, 2) :: mg (a :: x) y else (b, 3) :: mg x y
termination_by x y => x.length + y.length

/-- The slice value sv holds the ints zs, in a block below n₀, or there are none. -/
def Ints (lo hi : Nat) (W : World) (sv : Value) (zs : List Int) : Prop :=
  ∃ a cap, sv = .slice a zs.length cap ∧ (0 < zs.length → ∃ b off, a = some ⟨b, off, none⟩ ∧ (lo ≤ b ∧ b < hi) ∧ ∀ j, j < zs.length → W.cell? ⟨b, off + j, none⟩ = some (.int .i64 (zs[j]?.getD 0)))
/-- The blocks from lo on, below hi, are as they were. -/
def KeptIn (lo hi : Nat) (W W' : World) : Prop := ∀ k, lo ≤ k → k < hi → W'.heap[k]? = W.heap[k]?
theorem KeptIn.refl (lo hi : Nat) (W : World) : KeptIn lo hi W W := fun _ _ _ => rfl
theorem KeptIn.trans {lo hi : Nat} {A B C : World} (h : KeptIn lo hi A B) (k : KeptIn lo hi B C) : KeptIn lo hi A C := fun b h1 h2 => (k b h1 h2).trans (h b h1 h2)
theorem KeptIn.drewN {lo hi : Nat} {A B : World} (h : KeptIn lo hi A B) (m : Nat) : KeptIn lo hi A (B.drewN m) := h
theorem KeptIn.cell {lo hi : Nat} {A B : World} (h : KeptIn lo hi A B) {p : Addr} (hp : lo ≤ p.block ∧ p.block < hi) : B.cell? p = A.cell? p := World.cell?_of_block (h p.block hp.1 hp.2)
theorem KeptIn.of_below {lo hi : Nat} {A B : World} (h : Below hi A B) : KeptIn lo hi A B := fun k _ h2 => h.block k h2
theorem keptIn_b {lo hi : Nat} {w : World} (hn : hi ≤ w.heap.size) (W : World) (l : Nat) (o o' : Obj) (hl : w.heap.size ≤ l) (h : W.heap[l]? = some o) (_ : o.isCells = false) (_ : o.isWalk = false) : KeptIn lo hi W (W.putObj l o') :=
  fun k _ hk => World.putObj_heap_other (by omega)
theorem Ints.kept {lo hi : Nat} {A B : World} (h : KeptIn lo hi A B) {sv : Value} {zs : List Int} : Ints lo hi A sv zs → Ints lo hi B sv zs
  | ⟨a, cap, e, hc⟩ => ⟨a, cap, e, fun hn => by obtain ⟨b, off, e2, hb, hc⟩ := hc hn; exact ⟨b, off, e2, hb, fun j hj => (h.cell (p := ⟨b, off + j, none⟩) hb).trans (hc j hj)⟩⟩
theorem Ints.of_R {base lo hi : Nat} {w w' : World} {v : Value} {zs : List Int} (h : Kd.R (Kd.int .i64) 3 w base (fun _ => True) v zs) (hlo : lo ≤ base) (hb : ∀ k, k < w.heap.size → w'.heap[k]? = w.heap[k]?) (hhi : w.heap.size ≤ hi) : Ints lo hi w' v zs := by
  have ho := Kd.own_of_R h
  rcases ho.2 with ⟨rfl, hn⟩ | ⟨g, cap, cur, rfl, hg, hh, hn, hc, hs, ht⟩
  · exact ⟨none, 0, by rw [hn], fun h => by omega⟩
  · have hl := (Array.getElem?_eq_some_iff.1 hh).1
    refine ⟨some ⟨g, 0, none⟩, cap, rfl, fun _ => ⟨g, 0, rfl, ⟨by omega, by omega⟩, fun j hj => ?_⟩⟩
    have e := ho.cells (g := g) rfl j (.int .i64 (zs[j]?.getD 0)) (by simp [encs, hj])
    have ea : (⟨g, 0, none⟩ : Addr).add j = ⟨g, 0 + j, none⟩ := by unfold Addr.add; split <;> simp_all
    rw [ea] at e
    exact (World.cell?_of_block (a := ⟨g, 0 + j, none⟩) (hb g hl)).trans e

theorem drop_at {l : List Int} {i : Nat} (h : i < l.length) : l.drop i = l[i]?.getD 0 :: l.drop (i + 1) := by
  rw [List.drop_eq_getElem_cons h]; simp [h]
theorem mg_1 {x y : List Int} {i k : Nat} (hi : i < x.length) (h : y.length ≤ k ∨ (k < y.length ∧ x[i]?.getD 0 < y[k]?.getD 0)) : mg (x.drop i) (y.drop k) = (x[i]?.getD 0, 1) :: mg (x.drop (i + 1)) (y.drop k) := by
  rw [drop_at hi]
  rcases h with h | ⟨h, hlt⟩
  · rw [List.drop_eq_nil_of_le h, mg]
  · rw [drop_at h, mg, if_pos hlt]
theorem mg_2 {x y : List Int} {i k : Nat} (hk : k < y.length) (h : x.length ≤ i ∨ (i < x.length ∧ y[k]?.getD 0 < x[i]?.getD 0)) : mg (x.drop i) (y.drop k) = (y[k]?.getD 0, 2) :: mg (x.drop i) (y.drop (k + 1)) := by
  rw [drop_at hk]
  rcases h with h | ⟨h, hlt⟩
  · rw [List.drop_eq_nil_of_le h, mg]
  · rw [drop_at h, mg, if_neg (by omega), if_pos hlt]
theorem mg_3 {x y : List Int} {i k : Nat} (hi : i < x.length) (hk : k < y.length) (h1 : ¬ x[i]?.getD 0 < y[k]?.getD 0) (h2 : ¬ y[k]?.getD 0 < x[i]?.getD 0) :
    mg (x.drop i) (y.drop k) = (y[k]?.getD 0, 3) :: mg (x.drop (i + 1)) (y.drop (k + 1)) := by
  rw [drop_at hi, drop_at hk, mg, if_neg h1, if_neg h2]

set_option maxRecDepth 100000 in
set_option maxHeartbeats 4000000 in
theorem all1_in (n : Nat) (hn : 1 ≤ n) (l Bx By lo up : Nat) (vx vy : Value) (x y : List Int) (hlx : x.length ≤ 17592186044416) (hly : y.length ≤ 17592186044416) (hBx : lo ≤ Bx ∧ Bx < up) (hBy : lo ≤ By ∧ By < up) (J Jx : List (Int × Int) → World → Prop) (hJ : ∀ s W m, J s W → J s (W.drewN m))
    (hY : ∀ pre p W, J pre W → pre.length < (mg x y).length → YieldAt Fence.wide (n - 1) Tryd.prog l #[.int .i64 p.1, .int .i64 p.2] W fun e W' =>
      (e = .returned (.bool true) ∧ J (pre ++ [p]) W' ∧ KeptIn lo up W W') ∨ (e = .returned (.bool false) ∧ Jx (pre ++ [p]) W'))
    (W : World) (hcx : W.cell? ⟨Bx, 0, none⟩ = some vx) (hcy : W.cell? ⟨By, 0, none⟩ = some vy) (hIx : Ints lo up W vx x) (hIy : Ints lo up W vy y) (h0 : J [] W) :
    CallsIn Fence.wide n Tryd.prog 53 #[.func (.yield l) #[] #[], .pointer (some ⟨Bx, 0, none⟩), .pointer (some ⟨By, 0, none⟩)] W fun e W' => (∃ v, e = .returned v) ∧
      ((∃ ys, ys = mg x y ∧ J ys W') ∨ (∃ pre, pre <+: mg x y ∧ Jx pre W')) := by
  obtain ⟨ax, cx, rfl, hIx⟩ := hIx
  obtain ⟨ay, cy, rfl, hIy⟩ := hIy
  refine callsIn_of_wp Tryd.func53 rfl trivial ?_ rfl
  simp only [Tryd.ntmps53, List.size_toArray, List.length_cons, List.length_nil, Nat.reduceAdd, Nat.reduceSub, Array.replicate_succ, Array.replicate_zero, List.push_toArray, List.append_toArray, List.nil_append, List.cons_append]
  gi_wp2
  gi_loopw [4, 5] (fun i k wr => ∃ ii kk : Nat, ii ≤ x.length ∧ kk ≤ y.length ∧ i = .int .i64 ii ∧ k = .int .i64 kk ∧ (∃ pre, Hid (mg x y = pre ++ mg (x.drop ii) (y.drop kk)) ∧ J pre wr) ∧ KeptIn lo up W wr)
    (fun i k _ => (x.length - (intOf i).toNat) + (y.length - (intOf k).toNat))
  case atStart => exact ⟨0, 0, Nat.zero_le _, Nat.zero_le _, rfl, rfl, ⟨[], Lib.hid (by simp), h0⟩, KeptIn.refl _ _ _⟩
  case round =>
    obtain ⟨i, k, hi, hk, rfl, rfl, ⟨pre, Hpre, hJs⟩, hnx⟩ := hrel
    have hbx : wr.cell? ⟨Bx, 0, none⟩ = some (.slice ax x.length cx) := (hnx.cell (p := ⟨Bx, 0, none⟩) hBx).trans hcx
    have hby : wr.cell? ⟨By, 0, none⟩ = some (.slice ay y.length cy) := (hnx.cell (p := ⟨By, 0, none⟩) hBy).trans hcy
    clear hcx hcy
    by_cases hix : i < x.length
    · obtain ⟨bx, ox, rfl, hbx', hxs⟩ := hIx (by omega)
      obtain ⟨u, hu⟩ : ∃ u, u = x[i]?.getD 0 := ⟨_, rfl⟩
      have hcxi : wr.cell? ⟨bx, ox + i, none⟩ = some (.int .i64 u) := (hnx.cell (p := ⟨bx, ox + i, none⟩) hbx').trans (by rw [hu]; exact hxs i hix)
      clear hxs hIx
      have ix0 : ((i : Int) == (x.length : Int)) = false := beq_eq_false_iff_ne.2 (by omega)
      by_cases hky : k < y.length
      · obtain ⟨by', oy, rfl, hby', hys⟩ := hIy (by omega)
        obtain ⟨v, hv⟩ : ∃ v, v = y[k]?.getD 0 := ⟨_, rfl⟩
        have hcyk : wr.cell? ⟨by', oy + k, none⟩ = some (.int .i64 v) := (hnx.cell (p := ⟨by', oy + k, none⟩) hby').trans (by rw [hv]; exact hys k hky)
        clear hys hIy
        have ky0 : ((k : Int) == (y.length : Int)) = false := beq_eq_false_iff_ne.2 (by omega)
        by_cases h12 : u < v
        · have h1 := mg_1 hix (.inr ⟨hky, hu ▸ hv ▸ h12⟩)
          rw [← hu] at h1
          have Hm := Lib.hid h1
          clear h1 hu hv
          gi_wp2
          gi_big_quiet_th (fail)
          have hnx2 : KeptIn lo up W (wr.drewN nq) := hnx.drewN _
          have hJs2 : J pre (wr.drewN nq) := hJ _ _ _ hJs
          have a1 : (wr.drewN nq).cell? ⟨Bx, 0, none⟩ = some (.slice (some ⟨bx, ox, none⟩) x.length cx) := hbx
          have a2 : (wr.drewN nq).cell? ⟨By, 0, none⟩ = some (.slice (some ⟨by', oy, none⟩) y.length cy) := hby
          have a3 : (wr.drewN nq).cell? ⟨bx, ox + i, none⟩ = some (.int .i64 u) := hcxi
          have a4 : (wr.drewN nq).cell? ⟨by', oy + k, none⟩ = some (.int .i64 v) := hcyk
          clear hnx hJs hbx hby hcxi hcyk
          generalize wr.drewN nq = wr at *
          have hnx := hnx2
          have hJs := hJs2
          have hbx := a1
          have hby := a2
          have hcxi := a3
          have hcyk := a4
          clear hnx2 hJs2 a1 a2 a3 a4
          obtain ⟨fn, tmps, assign, body, hy, hR⟩ := hY pre (u, 1) _ hJs (by rw [Hpre.out, Hm.out]; simp)
          dsimp only at hy
          gi_wp2
          refine hR.mono ?_
          rintro e W3 (⟨rfl, hJ3, hk3⟩ | ⟨rfl, hJx3⟩)
          · gi_wp2
            go_roundw
            case rel => exact ⟨i + 1, k, by omega, by omega, by simp, by simp, ⟨_, Lib.hid (by rw [Hpre.out, Hm.out]; simp), hJ3⟩, hnx.trans hk3⟩
            case measure => simp [intOf]; omega
          · gi_wp2
            refine bodyPost_ret (results_none rfl _ _ _) rfl ?_
            exact ⟨⟨_, rfl⟩, .inr ⟨_, by rw [Hpre.out, Hm.out]; exact ⟨_, by simp; rfl⟩, hJx3⟩⟩
        · by_cases h21 : v < u
          · have h1 := mg_2 hky (.inr ⟨hix, hu ▸ hv ▸ h21⟩)
            rw [← hv] at h1
            have Hm := Lib.hid h1
            clear h1 hu hv
            gi_wp2
            gi_big_quiet_th (fail)
            have hnx2 : KeptIn lo up W (wr.drewN nq) := hnx.drewN _
            have hJs2 : J pre (wr.drewN nq) := hJ _ _ _ hJs
            have a1 : (wr.drewN nq).cell? ⟨Bx, 0, none⟩ = some (.slice (some ⟨bx, ox, none⟩) x.length cx) := hbx
            have a2 : (wr.drewN nq).cell? ⟨By, 0, none⟩ = some (.slice (some ⟨by', oy, none⟩) y.length cy) := hby
            have a3 : (wr.drewN nq).cell? ⟨bx, ox + i, none⟩ = some (.int .i64 u) := hcxi
            have a4 : (wr.drewN nq).cell? ⟨by', oy + k, none⟩ = some (.int .i64 v) := hcyk
            clear hnx hJs hbx hby hcxi hcyk
            generalize wr.drewN nq = wr at *
            have hnx := hnx2
            have hJs := hJs2
            have hbx := a1
            have hby := a2
            have hcxi := a3
            have hcyk := a4
            clear hnx2 hJs2 a1 a2 a3 a4
            gi_wp2
            gi_big_quiet_th (fail)
            have hnx2 : KeptIn lo up W (wr.drewN nq) := hnx.drewN _
            have hJs2 : J pre (wr.drewN nq) := hJ _ _ _ hJs
            have a1 : (wr.drewN nq).cell? ⟨Bx, 0, none⟩ = some (.slice (some ⟨bx, ox, none⟩) x.length cx) := hbx
            have a2 : (wr.drewN nq).cell? ⟨By, 0, none⟩ = some (.slice (some ⟨by', oy, none⟩) y.length cy) := hby
            have a3 : (wr.drewN nq).cell? ⟨bx, ox + i, none⟩ = some (.int .i64 u) := hcxi
            have a4 : (wr.drewN nq).cell? ⟨by', oy + k, none⟩ = some (.int .i64 v) := hcyk
            clear hnx hJs hbx hby hcxi hcyk
            generalize wr.drewN nq = wr at *
            have hnx := hnx2
            have hJs := hJs2
            have hbx := a1
            have hby := a2
            have hcxi := a3
            have hcyk := a4
            clear hnx2 hJs2 a1 a2 a3 a4
            obtain ⟨fn, tmps, assign, body, hy, hR⟩ := hY pre (v, 2) _ hJs (by rw [Hpre.out, Hm.out]; simp)
            dsimp only at hy
            gi_wp2
            refine hR.mono ?_
            rintro e W3 (⟨rfl, hJ3, hk3⟩ | ⟨rfl, hJx3⟩)
            · gi_wp2
              go_roundw
              case rel => exact ⟨i, k + 1, by omega, by omega, by simp, by simp, ⟨_, Lib.hid (by rw [Hpre.out, Hm.out]; simp), hJ3⟩, hnx.trans hk3⟩
              case measure => simp [intOf]; omega
            · gi_wp2
              refine bodyPost_ret (results_none rfl _ _ _) rfl ?_
              exact ⟨⟨_, rfl⟩, .inr ⟨_, by rw [Hpre.out, Hm.out]; exact ⟨_, by simp; rfl⟩, hJx3⟩⟩
          · have h1 := mg_3 hix hky (hu ▸ hv ▸ h12) (hu ▸ hv ▸ h21)
            rw [← hv] at h1
            have Hm := Lib.hid h1
            clear h1 hu hv
            gi_wp2
            gi_big_quiet_th (fail)
            have hnx2 : KeptIn lo up W (wr.drewN nq) := hnx.drewN _
            have hJs2 : J pre (wr.drewN nq) := hJ _ _ _ hJs
            have a1 : (wr.drewN nq).cell? ⟨Bx, 0, none⟩ = some (.slice (some ⟨bx, ox, none⟩) x.length cx) := hbx
            have a2 : (wr.drewN nq).cell? ⟨By, 0, none⟩ = some (.slice (some ⟨by', oy, none⟩) y.length cy) := hby
            have a3 : (wr.drewN nq).cell? ⟨bx, ox + i, none⟩ = some (.int .i64 u) := hcxi
            have a4 : (wr.drewN nq).cell? ⟨by', oy + k, none⟩ = some (.int .i64 v) := hcyk
            clear hnx hJs hbx hby hcxi hcyk
            generalize wr.drewN nq = wr at *
            have hnx := hnx2
            have hJs := hJs2
            have hbx := a1
            have hby := a2
            have hcxi := a3
            have hcyk := a4
            clear hnx2 hJs2 a1 a2 a3 a4
            gi_wp2
            gi_big_quiet_th (fail)
            have hnx2 : KeptIn lo up W (wr.drewN nq) := hnx.drewN _
            have hJs2 : J pre (wr.drewN nq) := hJ _ _ _ hJs
            have a1 : (wr.drewN nq).cell? ⟨Bx, 0, none⟩ = some (.slice (some ⟨bx, ox, none⟩) x.length cx) := hbx
            have a2 : (wr.drewN nq).cell? ⟨By, 0, none⟩ = some (.slice (some ⟨by', oy, none⟩) y.length cy) := hby
            have a3 : (wr.drewN nq).cell? ⟨bx, ox + i, none⟩ = some (.int .i64 u) := hcxi
            have a4 : (wr.drewN nq).cell? ⟨by', oy + k, none⟩ = some (.int .i64 v) := hcyk
            clear hnx hJs hbx hby hcxi hcyk
            generalize wr.drewN nq = wr at *
            have hnx := hnx2
            have hJs := hJs2
            have hbx := a1
            have hby := a2
            have hcxi := a3
            have hcyk := a4
            clear hnx2 hJs2 a1 a2 a3 a4
            obtain ⟨fn, tmps, assign, body, hy, hR⟩ := hY pre (v, 3) _ hJs (by rw [Hpre.out, Hm.out]; simp)
            dsimp only at hy
            gi_wp2
            refine hR.mono ?_
            rintro e W3 (⟨rfl, hJ3, hk3⟩ | ⟨rfl, hJx3⟩)
            · gi_wp2
              go_roundw
              case rel => exact ⟨i + 1, k + 1, by omega, by omega, by simp, by simp, ⟨_, Lib.hid (by rw [Hpre.out, Hm.out]; simp), hJ3⟩, hnx.trans hk3⟩
              case measure => simp [intOf]; omega
            · gi_wp2
              refine bodyPost_ret (results_none rfl _ _ _) rfl ?_
              exact ⟨⟨_, rfl⟩, .inr ⟨_, by rw [Hpre.out, Hm.out]; exact ⟨_, by simp; rfl⟩, hJx3⟩⟩
      · have hky' : k = y.length := by omega
        have ky0 : ((k : Int) == (y.length : Int)) = true := by rw [hky']; exact beq_self_eq_true _
        clear hky'
        have h1 := mg_1 (x := x) (y := y) (i := i) (k := k) hix (.inl (by omega))
        rw [← hu] at h1
        have Hm := Lib.hid h1
        clear h1 hu
        gi_wp2
        gi_big_quiet_th (fail)
        have hnx2 : KeptIn lo up W (wr.drewN nq) := hnx.drewN _
        have hJs2 : J pre (wr.drewN nq) := hJ _ _ _ hJs
        have a1 : (wr.drewN nq).cell? ⟨Bx, 0, none⟩ = some (.slice (some ⟨bx, ox, none⟩) x.length cx) := hbx
        have a2 : (wr.drewN nq).cell? ⟨By, 0, none⟩ = some (.slice ay y.length cy) := hby
        have a3 : (wr.drewN nq).cell? ⟨bx, ox + i, none⟩ = some (.int .i64 u) := hcxi
        clear hnx hJs hbx hby hcxi
        generalize wr.drewN nq = wr at *
        have hnx := hnx2
        have hJs := hJs2
        have hbx := a1
        have hby := a2
        have hcxi := a3
        clear hnx2 hJs2 a1 a2 a3
        obtain ⟨fn, tmps, assign, body, hy, hR⟩ := hY pre (u, 1) _ hJs (by rw [Hpre.out, Hm.out]; simp)
        dsimp only at hy
        gi_wp2
        refine hR.mono ?_
        rintro e W3 (⟨rfl, hJ3, hk3⟩ | ⟨rfl, hJx3⟩)
        · gi_wp2
          go_roundw
          case rel => exact ⟨i + 1, k, by omega, by omega, by simp, by simp, ⟨_, Lib.hid (by rw [Hpre.out, Hm.out]; simp), hJ3⟩, hnx.trans hk3⟩
          case measure => simp [intOf]; omega
        · gi_wp2
          refine bodyPost_ret (results_none rfl _ _ _) rfl ?_
          exact ⟨⟨_, rfl⟩, .inr ⟨_, by rw [Hpre.out, Hm.out]; exact ⟨_, by simp; rfl⟩, hJx3⟩⟩
    · have hix' : i = x.length := by omega
      have ix0 : ((i : Int) == (x.length : Int)) = true := by rw [hix']; exact beq_self_eq_true _
      clear hix'
      by_cases hky : k < y.length
      · obtain ⟨by', oy, rfl, hby', hys⟩ := hIy (by omega)
        obtain ⟨v, hv⟩ : ∃ v, v = y[k]?.getD 0 := ⟨_, rfl⟩
        have hcyk : wr.cell? ⟨by', oy + k, none⟩ = some (.int .i64 v) := (hnx.cell (p := ⟨by', oy + k, none⟩) hby').trans (by rw [hv]; exact hys k hky)
        clear hys hIy
        have ky0 : ((k : Int) == (y.length : Int)) = false := beq_eq_false_iff_ne.2 (by omega)
        have h1 := mg_2 (x := x) (y := y) (i := i) (k := k) hky (.inl (by omega))
        rw [← hv] at h1
        have Hm := Lib.hid h1
        clear h1 hv
        gi_wp2
        gi_big_quiet_th (fail)
        have hnx2 : KeptIn lo up W (wr.drewN nq) := hnx.drewN _
        have hJs2 : J pre (wr.drewN nq) := hJ _ _ _ hJs
        have a1 : (wr.drewN nq).cell? ⟨Bx, 0, none⟩ = some (.slice ax x.length cx) := hbx
        have a2 : (wr.drewN nq).cell? ⟨By, 0, none⟩ = some (.slice (some ⟨by', oy, none⟩) y.length cy) := hby
        have a4 : (wr.drewN nq).cell? ⟨by', oy + k, none⟩ = some (.int .i64 v) := hcyk
        clear hnx hJs hbx hby hcyk
        generalize wr.drewN nq = wr at *
        have hnx := hnx2
        have hJs := hJs2
        have hbx := a1
        have hby := a2
        have hcyk := a4
        clear hnx2 hJs2 a1 a2 a4
        gi_wp2
        gi_big_quiet_th (fail)
        have hnx2 : KeptIn lo up W (wr.drewN nq) := hnx.drewN _
        have hJs2 : J pre (wr.drewN nq) := hJ _ _ _ hJs
        have a1 : (wr.drewN nq).cell? ⟨Bx, 0, none⟩ = some (.slice ax x.length cx) := hbx
        have a2 : (wr.drewN nq).cell? ⟨By, 0, none⟩ = some (.slice (some ⟨by', oy, none⟩) y.length cy) := hby
        have a4 : (wr.drewN nq).cell? ⟨by', oy + k, none⟩ = some (.int .i64 v) := hcyk
        clear hnx hJs hbx hby hcyk
        generalize wr.drewN nq = wr at *
        have hnx := hnx2
        have hJs := hJs2
        have hbx := a1
        have hby := a2
        have hcyk := a4
        clear hnx2 hJs2 a1 a2 a4
        obtain ⟨fn, tmps, assign, body, hy, hR⟩ := hY pre (v, 2) _ hJs (by rw [Hpre.out, Hm.out]; simp)
        dsimp only at hy
        gi_wp2
        refine hR.mono ?_
        rintro e W3 (⟨rfl, hJ3, hk3⟩ | ⟨rfl, hJx3⟩)
        · gi_wp2
          go_roundw
          case rel => exact ⟨i, k + 1, by omega, by omega, by simp, by simp, ⟨_, Lib.hid (by rw [Hpre.out, Hm.out]; simp), hJ3⟩, hnx.trans hk3⟩
          case measure => simp [intOf]; omega
        · gi_wp2
          refine bodyPost_ret (results_none rfl _ _ _) rfl ?_
          exact ⟨⟨_, rfl⟩, .inr ⟨_, by rw [Hpre.out, Hm.out]; exact ⟨_, by simp; rfl⟩, hJx3⟩⟩
      · have e0 : mg (x.drop i) (y.drop k) = [] := by rw [List.drop_eq_nil_of_le (by omega), List.drop_eq_nil_of_le (by omega), mg]
        have He := Lib.hid e0
        clear e0
        gi_wp2
        go_end0
        exact ⟨⟨_, rfl⟩, .inl ⟨pre, by rw [Hpre.out, He.out]; simp, hJs⟩⟩

theorem all_stops (n : Nat) (hn : 1 ≤ n) (Bx By lo hi : Nat) (vx vy : Value) (x y : List Int) (hlx : x.length ≤ 17592186044416) (hly : y.length ≤ 17592186044416) (hBx : lo ≤ Bx ∧ Bx < hi) (hBy : lo ≤ By ∧ By < hi) (w : World) (hhi : hi ≤ w.heap.size)
    (hcx : w.cell? ⟨Bx, 0, none⟩ = some vx) (hcy : w.cell? ⟨By, 0, none⟩ = some vy) (hIx : Ints lo hi w vx x) (hIy : Ints lo hi w vy y) :
    SeqStopsK Fence.wide n Tryd.prog 53 #[.pointer (some ⟨Bx, 0, none⟩), .pointer (some ⟨By, 0, none⟩)] (fun p : Int × Int => #[Value.int .i64 p.1, Value.int .i64 p.2]) (KeptIn lo hi) (fun ys => ys = mg x y) (fun pre => pre <+: mg x y) (mg x y).length w := fun l J Jx W hW hJ _ hY h0 => by
  have hk : KeptIn lo hi w W := KeptIn.of_below (hW.mono hhi)
  exact all1_in n hn l Bx By lo hi vx vy x y hlx hly hBx hBy J Jx (fun s W1 m h => hJ s W1 _ none h ⟨rfl, rfl, rfl, Nat.le_refl _, fun _ _ _ => rfl⟩ (fun r e => by cases e)) hY W ((hk.cell (p := ⟨Bx, 0, none⟩) hBx).trans hcx) ((hk.cell (p := ⟨By, 0, none⟩) hBy).trans hcy) (hIx.kept hk) (hIy.kept hk) h0

end Go.Proofs.YthaofmbjkdikbaaDoor.H
