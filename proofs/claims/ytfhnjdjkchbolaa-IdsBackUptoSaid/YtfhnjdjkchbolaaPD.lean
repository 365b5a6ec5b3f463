/- What the printed functions that write and read whole numbers of a fixed width, and ids, come to: no memory and no Go here. -/
import Derived.Test.YtfhnjdjkchbolaaPB
import Derived.Test.YtfhnjdjkchbolaaHDec
import Derived.Laws.BitsLemmas
import Derived.Test.YtfhnjdjkchbolaaPAllx8
import Derived.Test.YtfhnjdjkchbolaaPAllx10
import Derived.Test.YtfhnjdjkchbolaaPAllx9
import Derived.Test.YtfhnjdjkchbolaaPAllx13
import Derived.Test.YtfhnjdjkchbolaaPAllx15
import Derived.Test.YtfhnjdjkchbolaaPAllx14
namespace Go.Proofs.Ytfhnjdjkchbolaa.PAll
open Go.RowKit Go.Proofs.YtfhnjdjkchbolaaW.PrintWords Go.Proofs.YtfhnjdjkchbolaaW.PrintLast Go.Proofs.YtfhnjdjkchbolaaW.PrintMore
set_option linter.unusedSimpArgs false
set_option linter.unusedVariables false

theorem wrapu_in {i : Int} (h0 : 0 ≤ i) (h : i < 18446744073709551616) : IntKind.u64.wrap i = i := by rw [IntKind.wrap_u64]; omega
theorem wrapi_in {i : Int} (h0 : -9223372036854775808 ≤ i) (h : i ≤ 9223372036854775807) : IntKind.i64.wrap i = i := by rw [IntKind.wrap_i64]; omega
theorem bt_nums (s : ByteArray) (i : Nat) : bt s (i : Int) = (H.nums8 s)[i]?.getD 0 := by
  unfold bt
  rw [Int.toNat_natCast]
  split
  · next h => rw [H.nums8_at s h]; rfl
  · next h => rw [List.getElem?_eq_none (by rw [H.nums8_len]; omega)]; rfl
theorem or_in {x b : Int} (h0 : 0 ≤ x) (h1 : x < 72057594037927936) (h2 : 0 ≤ b) (h3 : b ≤ 255) : Go.bits .or .u64 (IntKind.u64.wrap (x * 256)) (IntKind.u64.wrap b) = x * 256 + b := by
  rw [wrapu_in (by omega) (by omega), wrapu_in (by omega) (by omega)]
  exact bits_join .u64 64 (by decide) (fun n h h' => wrapu_in h (by omega)) 8 _ _ (by omega) (by omega) (by omega) h2 (by omega) (by omega)
theorem shr0 {x : Int} (h0 : 0 ≤ x) : shr .u64 x 0 = x := by unfold shr; simp [IntKind.bits]
theorem shr8 {x : Int} (h0 : 0 ≤ x) : shr .u64 x 8 = x / 256 := by unfold shr; simp [IntKind.bits]
theorem shr16 {x : Int} (h0 : 0 ≤ x) : shr .u64 x 16 = x / 65536 := by unfold shr; simp [IntKind.bits]
theorem shr24 {x : Int} (h0 : 0 ≤ x) : shr .u64 x 24 = x / 16777216 := by unfold shr; simp [IntKind.bits]
theorem shr32 {x : Int} (h0 : 0 ≤ x) : shr .u64 x 32 = x / 4294967296 := by unfold shr; simp [IntKind.bits]

theorem wl {i : Int} (h0 : -1000 ≤ i) (h : i ≤ 1000) : wrap64 i = i := wrap_in (by omega) (by omega)
theorem fix_ev (n : Nat) (h : n < 4294967296) : Ev (fun k => num_Fix.f k (n : Int) 4) (strOfNums (H.le4 n), 0) := by
  refine ⟨6, fun k hk => ?_⟩
  obtain ⟨m, rfl⟩ : ∃ m, k = m + 6 := ⟨k - 6, by omega⟩
  have e : (shr .u64 (n : Int) 32 != 0) = false := by rw [shr32 (by omega)]; simp; omega
  simp [num_Fix.f, num_Fix.j0, num_Fix.l0, H.le4, List.replicate, wl, shr32, shr0, shr8, shr16, shr24]
  omega
theorem rfix_ev (n : Nat) (h : n < 4294967296) : Ev (fun k => lodestarref01_Fix.f k (n : Int) 4) (strOfNums (H.le4 n), 0) := by
  refine ⟨6, fun k hk => ?_⟩
  obtain ⟨m, rfl⟩ : ∃ m, k = m + 6 := ⟨k - 6, by omega⟩
  have d : ∀ a : Nat, Int.tdiv (a : Int) 256 = ((a / 256 : Nat) : Int) := fun a => by rw [Int.tdiv_eq_ediv_of_nonneg (by omega)]; omega
  have t : ∀ a : Nat, Int.tmod (a : Int) 256 % 256 = ((a % 256 : Nat) : Int) := fun a => by rw [Int.tmod_eq_emod_of_nonneg (by omega)]; omega
  have u : ∀ a : Nat, a < 4294967296 → IntKind.u64.wrap (a : Int) = (a : Int) := fun a h => wrapu_in (by omega) (by omega)
  have z : n / 256 / 256 / 256 / 256 = 0 := by omega
  simp [lodestarref01_Fix.f, lodestarref01_Fix.j0, lodestarref01_Fix.l0, H.le4, wl, d, t, -Int.natCast_ediv, -Int.natCast_emod]
  rw [u _ (by omega), d, u _ (by omega), d, u _ (by omega), d, u _ (by omega), t, t, t, z]
  simp [Nat.div_div_eq_div_mul]
theorem four {s : ByteArray} (h : s.size = 4) : ∃ a b c d : Int, H.nums8 s = [a, b, c, d] := by
  have := H.nums8_len s
  rw [h] at this
  match H.nums8 s, this with
  | [a, b, c, d], _ => exact ⟨a, b, c, d, rfl⟩
theorem unfix_ev (s : ByteArray) (h : s.size = 4) : Ev (fun k => num_Unfix.f k s) (H.ofle (H.nums8 s), 0) := by
  refine ⟨6, fun k hk => ?_⟩
  obtain ⟨m, rfl⟩ : ∃ m, k = m + 6 := ⟨k - 6, by omega⟩
  obtain ⟨a, b, c, d, e⟩ := four h
  have hs := H.nums8_small s
  rw [e] at hs
  have ha := hs a (by simp)
  have hb := hs b (by simp)
  have hc := hs c (by simp)
  have hd := hs d (by simp)
  have b0 : bt s 0 = a := by have := bt_nums s 0; rw [e] at this; exact this
  have b1 : bt s 1 = b := by have := bt_nums s 1; rw [e] at this; exact this
  have b2 : bt s 2 = c := by have := bt_nums s 2; rw [e] at this; exact this
  have b3 : bt s 3 = d := by have := bt_nums s 3; rw [e] at this; exact this
  have hz : (s.size : Int) = 4 := by omega
  rw [e]
  simp [num_Unfix.f, num_Unfix.j0, num_Unfix.l0, hz, wl, b0, b1, b2, b3]
  have o0 : Go.bits .or .u64 (IntKind.u64.wrap 0) (IntKind.u64.wrap d) = d := by have := or_in (x := 0) (by omega) (by omega) hd.1 hd.2; simpa using this
  rw [o0, or_in (by omega) (by omega) hc.1 hc.2, or_in (by omega) (by omega) hb.1 hb.2, or_in (by omega) (by omega) ha.1 ha.2]
  simp [H.ofle]
  omega
theorem runfix_ev (s : ByteArray) (h : s.size = 4) : Ev (fun k => lodestarref01_Unfix.f k s) (H.ofle (H.nums8 s), 0) := by
  refine ⟨6, fun k hk => ?_⟩
  obtain ⟨m, rfl⟩ : ∃ m, k = m + 6 := ⟨k - 6, by omega⟩
  obtain ⟨a, b, c, d, e⟩ := four h
  have hs := H.nums8_small s
  rw [e] at hs
  have ha := hs a (by simp)
  have hb := hs b (by simp)
  have hc := hs c (by simp)
  have hd := hs d (by simp)
  have b0 : bt s 0 = a := by have := bt_nums s 0; rw [e] at this; exact this
  have b1 : bt s 1 = b := by have := bt_nums s 1; rw [e] at this; exact this
  have b2 : bt s 2 = c := by have := bt_nums s 2; rw [e] at this; exact this
  have b3 : bt s 3 = d := by have := bt_nums s 3; rw [e] at this; exact this
  have hz : (s.size : Int) = 4 := by omega
  have ad : ∀ x y : Int, 0 ≤ x → x < 72057594037927936 → 0 ≤ y → y ≤ 255 → IntKind.u64.wrap (IntKind.u64.wrap (x * 256) + IntKind.u64.wrap y) = x * 256 + y := fun x y h1 h2 h3 h4 => by rw [wrapu_in (i := x * 256) (by omega) (by omega), wrapu_in (i := y) (by omega) (by omega), wrapu_in (by omega) (by omega)]
  rw [e]
  simp [lodestarref01_Unfix.f, lodestarref01_Unfix.j0, lodestarref01_Unfix.l0, hz, wl, b0, b1, b2, b3]
  have o0 : IntKind.u64.wrap (IntKind.u64.wrap 0 + IntKind.u64.wrap d) = d := by have := ad 0 d (by omega) (by omega) hd.1 hd.2; simpa using this
  rw [o0, ad _ c (by omega) (by omega) hc.1 hc.2, ad _ b (by omega) (by omega) hb.1 hb.2, ad _ a (by omega) (by omega) ha.1 ha.2]
  simp [H.ofle]
  omega
theorem enc_ev (l : List Int) (hl : l.length ≤ 17592186044416) (h32 : H.IsIds l → l.length < 4294967296) : Ev (fun k => ids_Encode.f k l) (if H.IsIds l then (strOfNums (H.le4 l.length ++ H.encL 0 l), 0) else (⟨#[]⟩, 80)) := by
  refine Ev.bind (f := fun k c => _) (check_ev l hl) ?_
  by_cases c : H.IsIds l
  · simp only [if_pos c]
    have hn := h32 c
    simp only [if_true]
    simp only [if_pos (show l.length ≤ 4398046511104 by omega)]
    refine Ev.bind (f := fun k r => _) (fix_ev l.length hn) ?_
    simp only [if_true, strOfNums_size, H.nums8_of (H.le4_small _)]
    simp only [if_pos (show (H.le4 l.length).length ≤ 8 by simp [H.le4])]
    exact Ev.now _
  · simp only [if_neg c]
    simp only [if_neg (show ¬ ((80 : Int) = 0) by omega)]
    exact Ev.now _
theorem renc_ev (l : List Int) (hl : l.length ≤ 2147483648) : Ev (fun k => lodestarref08_Encode.f k l) (if H.IsIds l then (strOfNums (H.le4 l.length ++ H.encL 0 l), 0) else (⟨#[]⟩, 80)) := by
  refine Ev.bind (f := fun k c => _) (rcheck_ev l (by omega)) ?_
  by_cases c : H.IsIds l
  · simp only [if_pos c, if_true]
    simp only [if_pos hl]
    refine Ev.bind (f := fun k r => _) (rfix_ev l.length (by omega)) ?_
    simp only [strOfNums_size, H.nums8_of (H.le4_small _)]
    simp only [if_pos (show (H.le4 l.length).length ≤ 8 by simp [H.le4])]
    exact Ev.now _
  · simp only [if_neg c]
    simp only [if_neg (show ¬ ((80 : Int) = 0) by omega)]
    exact Ev.now _
end Go.Proofs.Ytfhnjdjkchbolaa.PAll
