/- Words: law14.twin: a copy of a list of points, all in memory of its own. -/
import Derived.Test.YtcpaejdipohndaaVCopy
namespace Go.Proofs.Ytcpaejdipohndaa.V
open Go.RowKit Go.Sort Go.Shelf Go.Lib Go.Maps Go.Proofs.YtcpaejdipohndaaW.PrintWords Go.Proofs.Ytcpaejdipohndaa.PAll Go.Proofs.Ytcpaejdipohndaa.R
set_option linter.unusedVariables false
theorem kp_fresh {W : World} {base : Nat} {x : Pt} {cs : List Value} (h : k33.M W base (fun _ => True) x cs) : k33.M W base (fun k => base ≤ k) x cs :=
  k33.M_mono (fun k hk => hk.2.1) (k33.M_bound h)
theorem kp_slices {W : World} {base : Nat} {ok : Nat → Prop} {x : Pt} {v1 v2 : Value} (h : k33.M W base ok x [.int .i64 x.f0, v1, v2]) : ∃ A1 c1 A2 c2, v1 = .slice A1 x.f1.length c1 ∧ v2 = .slice A2 x.f2.length c2 := by
  obtain ⟨v1', v2', he, h1, h2⟩ := k33_openM h
  obtain ⟨A1, c1, rfl⟩ := Kd.R_slice h1
  obtain ⟨A2, c2, rfl⟩ := Kd.R_slice h2
  injection he with _ he; injection he with h1 he; injection he with h2 _
  exact ⟨A1, c1, A2, c2, h1, h2⟩
set_option maxRecDepth 100000 in
set_option maxHeartbeats 1000000 in
theorem twin_calls (A : Option Addr) (c : Nat) (l : List Pt) (w : World) (hC : Kd.C k33 w A l.length l) (hl : l.length ≤ 1048576) (hn : ∀ p ∈ l, p.f1.length ≤ 1048576 ∧ p.f2.length ≤ 1048576 ∧ ∀ x ∈ p.f1, x.f1.length ≤ 1048576) :
    Calls Try.prog 7 #[.slice A l.length c] w fun e w' => ∃ v, e = .returned v ∧ Kd.R k33 33 w' w.heap.size (fun _ => True) v l ∧ Below w.heap.size w w' := by
  have HC := Lib.hid hC
  clear hC
  go_enter Try.func7, Try.ntmps7
  go_wp2_with fail
  go_loopw [3, 4] (fun rx s wr => ∃ (rv : Value) (i : Nat), rv = rx ∧ i ≤ l.length ∧ s = .int .i64 i ∧ Kd.R k33 33 wr w.heap.size (fun _ => True) rv (l.take i) ∧ Below w.heap.size w wr) (fun _ s _ => l.length - (intOf s).toNat)
  case atStart => exact ⟨_, 0, rfl, Nat.zero_le _, rfl, Kd.R_nil _ _ _ _ _, Below.refl _ _⟩
  case round =>
    obtain ⟨rv, i, rfl, hi, rfl, hR, hB⟩ := hrel
    have HR := Lib.hid hR
    have HB := Lib.hid hB
    by_cases hlt : i < l.length
    · have hlt' : decide ((i : Int) < (l.length : Int)) = true := decide_eq_true (by omega)
      obtain ⟨b0, o0, rfl, hb0, hcs0⟩ := pts_full HC.out (by omega)
      obtain ⟨A1, c1, A2, c2, x0, x1, x2, hK⟩ := hcs0 i hlt
      have HT : Hid (l.take (i + 1) = l.take i ++ [l[i]]) := Lib.hid (List.take_succ_eq_append_getElem hlt)
      have hni := hn l[i] (List.getElem_mem hlt)
      have hol : (l.take i).length ≤ 1048576 := by rw [List.length_take]; omega
      obtain ⟨A1', c1', A2', c2', he, -, hCv, -, hCf⟩ := k33_open hK
      have e1 : A1 = A1' := by injection he with _ he; injection he with he _; injection he
      have e2 : A2 = A2' := by injection he with _ he; injection he with _ he; injection he with he _; injection he
      subst e1 e2
      have d0 := (hB.cell (p := ⟨b0, o0 + i * 3, none⟩) hb0).trans x0
      have d1 := (hB.cell (p := ⟨b0, o0 + i * 3 + 1, none⟩) hb0).trans x1
      have d2 := (hB.cell (p := ⟨b0, o0 + i * 3 + 2, none⟩) hb0).trans x2
      have hCv := Kd.C_below hCv hB
      have hCf := Kd.C_below hCf hB
      have hle : w.heap.size ≤ wr.heap.size := hB.size
      have p1 := eq_true (show (0 : Int) ≤ (i : Int) by omega)
      have p2 := eq_true (show (i : Int) < (l.length : Int) by omega)
      have p3 : (i < l.length) = True := eq_true hlt
      clear hcs0 he hK x0 x1 x2 hB
      generalize l[i] = p at *
      generalize l.take i = ps at *
      clear hR
      go_wp2_with (first
        | (go_at_call 23; refine (copy_calls p A1 A2 c1 c2 _ hCv hCf hni.1 hni.2.1 hni.2.2).mono ?_; rintro e w1 ⟨v1, v2, rfl, hM, hB1⟩; obtain ⟨A7, c7, A8, c8, rfl, rfl⟩ := kp_slices hM; have HM := Lib.hid (kp_fresh hM); have HB1 := Lib.hid hB1; clear hM hB1)
        | ((with_reducible refine gate_builtin (b := .append) (xs := #[.tmp 11, .tmp 17]) rfl ?_); at_builtin; refine Kd.R_append k33 (w0 := w) (W := w1) w.heap.size rfl (.tmp 11) (.tmp 17) 22 33 (.agg #[.int .i64 0, .slice none 0 0, .slice none 0 0]) 56 rfl Try.underlying22 infoP rfl (by decide) (by decide) rv ps p [.int .i64 p.f0, .slice A7 p.f1.length c7, .slice A8 p.f2.length c8] (fun _ => True) (fun k => wr.heap.size ≤ k) rfl rfl (k33.M_lower hle HM.out) (fun k hk => ⟨trivial, fun e => by have := Kd.R_lt HR.out k e.symm; omega⟩) (fun _ _ => trivial) (Kd.R_below HR.out HB1.out) (HB.out.trans (HB1.out.mono hle)) (Nat.le_trans hle HB1.out.size) (by omega) ?_; intro v4 w4 hR4 hB4 hg4 hat4; have HR4 := Lib.hid hR4; have HB4 := Lib.hid hB4; clear hR4 hB4 hg4 hat4))
      go_roundw
      case rel => exact ⟨_, i + 1, rfl, by omega, by go_num, HT.out ▸ HR4.out, HB4.out⟩
      case measure => simp [intOf]; omega
    · have hlt' : decide ((i : Int) < (l.length : Int)) = false := decide_eq_false (by omega)
      have hil : i = l.length := by omega
      subst hil
      rw [List.take_length] at HR
      clear hR hB
      go_wp2_with fail
      go_ret
      exact ⟨_, rfl, HR.out, HB.out⟩
end Go.Proofs.Ytcpaejdipohndaa.V
