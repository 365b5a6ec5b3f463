/- num.Hash of a text: the number that the fold of its bytes gives; nothing that lay ahead of the call has turned. -/
import Derived.Test.YtihanpdfnpgnfaaSSorted
import Derived.Lib.ConvBytes
import Derived.Laws.BitsLemmas
namespace Go.Proofs.Ytihanpdfnpgnfaa.H
open Go.RowKit Go.Sort Go.Shelf Go.Proofs.YtihanpdfnpgnfaaW.PrintWords
set_option linter.unusedVariables false

def hst (x : Int) (c : Int) : Int := IntKind.u64.wrap ((Go.bits .xor .u64 x (IntKind.u64.wrap c)) * 1099511628211)
def hup (l : List UInt8) : Int := l.foldl (fun x c => hst x (c.toNat : Int)) 14695981039346656037
def hashOf (s : ByteArray) : Int := wrap64 (hup s.data.toList / 4096)
theorem hup_snoc (l : List UInt8) (c : UInt8) : hup (l ++ [c]) = hst (hup l) (c.toNat : Int) := by unfold hup; simp
theorem hup_take {s : ByteArray} {k : Nat} (h : k < s.size) : hup (s.data.toList.take (k + 1)) = hst (hup (s.data.toList.take k)) ((s.data.toList.getD k 0).toNat : Int) := by
  have hl : k < s.data.toList.length := by simpa using h
  rw [List.take_succ_eq_append_getElem hl, hup_snoc]
  have : s.data.toList.getD k 0 = s.data.toList[k] := by rw [List.getD, List.getElem?_eq_getElem hl]; rfl
  rw [this]

set_option maxRecDepth 100000 in
set_option maxHeartbeats 2000000 in
theorem hash_calls (s : ByteArray) (hs : s.size ≤ 4611686018427387904) (w : World) :
    Calls Try.prog 20 #[.string s] w fun e w' => e = .returned (.int .i64 (hashOf s)) ∧ Below w.heap.size w w' := by
  have hcv := Lib.run_convert_string_bytes (P := Try.prog) w 9 63 5 s Try.underlying9 Try.underlying63 Try.underlying5
  have hcell := Lib.bytesWorld_cell w 5 s
  have hB : Below w.heap.size w (Lib.bytesWorld w 5 s) := ⟨rfl, rfl, rfl, by rw [Lib.bytesWorld_size]; omega, fun k hk => Lib.bytesWorld_at_old w 5 s k hk⟩
  generalize grownCap w s.size 0 5 = cp at hcv
  generalize Lib.bytesWorld w 5 s = W1 at hcv hcell hB
  go_enter Try.func20, Try.ntmps20
  go_wp2
  clear hcv
  go_loop [3, 9] (fun h i => ∃ k : Nat, k ≤ s.size ∧ i = .int .i64 k ∧ h = .int .u64 (hup (s.data.toList.take k))) (fun _ i => s.size - (intOf i).toNat)
  case atStart => exact ⟨0, Nat.zero_le _, rfl, rfl⟩
  case round =>
    obtain ⟨k, hk, rfl, rfl⟩ := hrel
    by_cases hlt : k < s.size
    · have hc := hcell k hlt
      have Hn := Lib.hid (hup_take hlt)
      clear hcell
      generalize hup (s.data.toList.take k) = u at Hn ⊢
      generalize (s.data.toList.getD k 0).toNat = c at hc Hn
      go_wp2
      go_round
      case rel => exact ⟨k + 1, by omega, by go_num, by rw [Hn.out]; rfl⟩
      case measure => simp [intOf]; omega
    · have : k = s.size := by omega
      subst this
      have ht : s.data.toList.take s.size = s.data.toList := List.take_of_length_le (by simp)
      rw [ht]
      have He : Hid (hashOf s = wrap64 (hup s.data.toList / 4096)) := Lib.hid rfl
      generalize hup s.data.toList = u at He ⊢
      clear ht hcell
      go_wp2
      go_ret
      exact ⟨by rw [He.out]; rfl, hB⟩
end Go.Proofs.Ytihanpdfnpgnfaa.H
