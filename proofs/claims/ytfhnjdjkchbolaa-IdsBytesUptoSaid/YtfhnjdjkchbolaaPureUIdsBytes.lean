/- The plain law of IdsBytes, under the bound. -/
import Derived.Test.YtfhnjdjkchbolaaPE
import Derived.Test.YtfhnjdjkchbolaaPUIdsBytes
namespace Go.Proofs.Ytfhnjdjkchbolaa.PureU
open Go.RowKit Go.Proofs.Ytfhnjdjkchbolaa.PAll Go.Proofs.YtfhnjdjkchbolaaW.PrintWords Go.Proofs.YtfhnjdjkchbolaaW.PrintLast Go.Proofs.YtfhnjdjkchbolaaW.PrintMore

theorem IdsBytes : PAll.lodestarlaw08_IdsBytesU.Pure := by
  intro l a h1 h2 h3 h4 u1 u2
  have hd : (H.decB (H.nums8 a)).1.length ≤ 17592186044416 := by
    rcases H.decB_back (H.nums8_small a) (l := (H.decB (H.nums8 a)).1) (e := (H.decB (H.nums8 a)).2) rfl with ⟨_, _, h, _⟩ | ⟨_, h⟩
    · omega
    · rw [h]; exact Nat.zero_le _
  refine Ev.rounds (g := fun k => lodestarlaw08_IdsBytes.f k l a) ?_
  unfold lodestarlaw08_IdsBytes.f
  refine Ev.bind (enc_ev l (by omega) (fun _ => by omega)) ?_
  refine Ev.bind (renc_ev l (by omega)) ?_
  refine Ev.bind (dec_ev a (by omega)) ?_
  refine Ev.bind (rdec_ev a (by omega)) ?_
  simp only [if_true]
  refine Ev.bind (same_of rfl hd) ?_
  simp only [if_true]
  exact Ev.now _
end Go.Proofs.Ytfhnjdjkchbolaa.PureU
