/- Words: points that come in, opened. -/
import Derived.Test.YtcpaejdipohndaaRKinds
import Derived.Test.YtcpaejdipohndaaVA
namespace Go.Proofs.Ytcpaejdipohndaa.V
open Go.RowKit Go.Proofs.YtcpaejdipohndaaW.PrintWords Go.Proofs.Ytcpaejdipohndaa.PAll Go.Proofs.Ytcpaejdipohndaa.R
set_option linter.unusedVariables false
def GVec (x : S70) : Prop := x.f0.size ≤ 1048576 ∧ AllG I64r x.f1
def GVal (x : Va) : Prop := I64r x.f0 ∧ I64r x.f1 ∧ x.f2.size ≤ 1048576
def GFld (x : S35) : Prop := x.f0.size ≤ 1048576 ∧ GVal x.f1
def GPt (x : Pt) : Prop := I64r x.f0 ∧ AllG GVec x.f1 ∧ AllG GFld x.f2
theorem opn_vec : Opn 70 k70 GVec := by
  intro H enc w base spare held fuel cs x hx hb
  have h := opn_struct (f := fun x : S70 => (x.f0, x.f1))  Try.underlying70 (by kernel_rfl) (opnF_cons rfl (by kernel_rfl) (opn_string Try.underlying9) (opnF_one rfl (by kernel_rfl) (opn_slice Try.underlying37 (by kernel_rfl) (opn_int Try.underlying3)))) (fun y => ⟨⟨y.1, y.2⟩, rfl⟩) enc w base spare held fuel cs x hx hb
  exact h
theorem opn_va : Opn 24 k24 GVal := by
  intro H enc w base spare held fuel cs x hx hb
  have h := opn_struct (f := fun x : Va => (x.f0, x.f1, x.f2))  Try.underlying24 (by kernel_rfl) (opnF_cons rfl (by kernel_rfl) (opn_int Try.underlying3) (opnF_cons  rfl (by kernel_rfl) (opn_int Try.underlying3) (opnF_one rfl (by kernel_rfl) (opn_string Try.underlying9)))) (fun y => ⟨⟨y.1, y.2.1, y.2.2⟩, rfl⟩) enc w base spare held fuel cs x hx hb
  exact h
theorem opn_fld : Opn 35 k35 GFld := by
  intro H enc w base spare held fuel cs x hx hb
  have h := opn_struct (f := fun x : S35 => (x.f0, x.f1))  Try.underlying35 (by kernel_rfl) (opnF_cons rfl (by kernel_rfl) (opn_string Try.underlying9) (opnF_one rfl (by kernel_rfl) opn_va)) (fun y => ⟨⟨y.1, y.2⟩, rfl⟩) enc w base spare held fuel cs x hx hb
  exact h
theorem opn_pt : Opn 33 k33 GPt := by
  intro H enc w base spare held fuel cs x hx hb
  have h := opn_struct (f := fun x : Pt => (x.f0, x.f1, x.f2))  Try.underlying33 (by kernel_rfl) (opnF_cons rfl (by kernel_rfl) (opn_int Try.underlying3) (opnF_cons  rfl (by kernel_rfl) (opn_slice Try.underlying30 (by kernel_rfl) opn_vec) (opnF_one rfl (by kernel_rfl) (opn_slice Try.underlying31 (by kernel_rfl) opn_fld)))) (fun y => ⟨⟨y.1, y.2.1, y.2.2⟩, rfl⟩) enc w base spare held fuel cs x hx hb
  exact h
theorem opn_pts : Opn 22 (Kd.slice 33 k33) (AllG GPt) := opn_slice Try.underlying22 (by kernel_rfl) opn_pt
theorem wf_of {n : Int} (h : I64r n) : (Lit.int .i64 n).wf = true := by
  show (decide (IntKind.i64.min ≤ n) && decide (n ≤ IntKind.i64.max)) = true
  rw [Bool.and_eq_true]
  exact ⟨decide_eq_true h.1, decide_eq_true h.2⟩
theorem goodV_of {v : Va} (h : GVal v) : GoodV v := ⟨wf_of h.1, wf_of h.2.1, Nat.le_trans h.2.2 (by unfold maxLen; omega)⟩
theorem goodL_of {l : List Pt} (h : AllG GPt l) : GoodL l := ⟨fun p hp => wf_of (h.2 p hp).1, fun p hp => (h.2 p hp).2.2.1, fun p hp x hx => goodV_of ((h.2 p hp).2.2.2 x hx).2⟩
end Go.Proofs.Ytcpaejdipohndaa.V
