/- The walk of the law StatsWords: the printed contract at the plain law. -/
import Derived.Test.YtihanpdfnpgnfaaRKinds
import Derived.Test.YtihanpdfnpgnfaaTW
import Derived.Test.YtihanpdfnpgnfaaPAllx15
namespace Go.Proofs.Ytihanpdfnpgnfaa.H
open Go.RowKit Go.Proofs.YtihanpdfnpgnfaaW.PrintWords Go.Proofs.Ytihanpdfnpgnfaa.PAll
theorem statsWords_walk (A0 : Option Addr) (c0 : Nat) (l0 : List ByteArray) (s1 : ByteArray) (W : World) (hC0 : Kd.C Kd.string W A0 l0.length l0) (hl0 : l0.length ≤ c0) (hG0 : R.AllG (fun s : ByteArray => s.size ≤ 1048576) l0) (hG1 : s1.size ≤ 1048576) :
    Calls Try.prog 6 #[.slice A0 l0.length c0, .string s1] W fun e w' => e = .returned (.bool true) ∧ Below W.heap.size W w' :=
  lodestarlaw15_StatsWords.calls 2097300 A0 c0 l0 s1 true W hC0 hl0 (Pure.words_ex l0 s1 hG0.1 hG0.2 hG1 (Nat.le_refl _))
end Go.Proofs.Ytihanpdfnpgnfaa.H
