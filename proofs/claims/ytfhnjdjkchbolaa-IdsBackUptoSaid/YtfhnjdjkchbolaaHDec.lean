/- The plain law of ids as bytes, read back: no memory and no Go here. -/
import Derived.Test.YtfhnjdjkchbolaaHEncode
import Derived.Lib.Strings
namespace Go.Proofs.Ytfhnjdjkchbolaa.H
open Go.RowKit
set_option linter.unusedSimpArgs false
set_option linter.unusedVariables false

def Small (bs : List Int) : Prop := ∀ b ∈ bs, 0 ≤ b ∧ b ≤ 255
theorem nums8_small (s : ByteArray) : Small (nums8 s) := by
  intro b hb
  obtain ⟨u, _, rfl⟩ := List.mem_map.1 hb
  have := u.toNat_lt
  omega
theorem nums8_len (s : ByteArray) : (nums8 s).length = s.size := by unfold nums8; rw [List.length_map, Array.length_toList]; rfl
theorem nums8_of {xs : List Int} (h : Small xs) : nums8 (strOfNums xs) = xs := by
  unfold nums8
  rw [strOfNums_data, List.map_map]
  conv => rhs; rw [← List.map_id xs]
  refine List.map_congr_left fun x hx => ?_
  have := h x hx
  simp only [Function.comp, id, UInt8.toNat_ofNat']
  omega
theorem strOf_nums8 (s : ByteArray) : strOfNums (nums8 s) = s := by
  apply ByteArray.ext
  apply Array.toList_inj.1
  rw [strOfNums_data]
  unfold nums8
  rw [List.map_map]
  conv => rhs; rw [← List.map_id s.data.toList]
  refine List.map_congr_left fun x hx => ?_
  simp
theorem nums8_inj {s t : ByteArray} (h : nums8 s = nums8 t) : s = t := by rw [← strOf_nums8 s, ← strOf_nums8 t, h]
theorem nums8_append (s t : ByteArray) : nums8 (s ++ t) = nums8 s ++ nums8 t := by simp [nums8, ByteArray.data_append]
theorem nums8_extract (s : ByteArray) (a b : Nat) : nums8 (s.extract a b) = ((nums8 s).drop a).take (b - a) := by
  unfold nums8
  rw [Lib.extract_data, List.map_take, List.map_drop]
theorem nums8_at (s : ByteArray) {i : Nat} (h : i < s.size) : (nums8 s)[i]? = some ((s[i]'h).toNat : Int) := by
  unfold nums8
  rw [List.getElem?_map, List.getElem?_eq_getElem (by rw [Array.length_toList]; exact h)]
  rfl

/-- A small whole number off the front, of at most f bytes. -/
def sm : Nat → List Int → Option (Int × List Int)
  | 0, _ => none
  | _ + 1, [] => none
  | f + 1, b :: r => if b < 128 then (if b = 0 then none else some (b, r)) else (sm f r).map fun q => (b - 128 + 128 * q.1, q.2)
def top : Int := 4503599627370496
/-- So many ids off the front, and then nothing. -/
def decL : Nat → Int → List Int → Option (List Int)
  | 0, _, bs => if bs = [] then some [] else none
  | c + 1, p, bs => (sm 8 bs).bind fun q => if p + q.1 > top then none else (decL c (p + q.1) q.2).map fun t => (p + q.1) :: t

theorem sm_back : ∀ (f : Nat) (bs : List Int) (v : Int) (r : List Int), Small bs → sm f bs = some (v, r) → 1 ≤ v ∧ bs = enc7 v.toNat ++ r ∧ r.length < bs.length := by
  intro f
  induction f with
  | zero => intro bs v r _ h; simp [sm] at h
  | succ f ih =>
    intro bs v r hs h
    cases bs with
    | nil => simp [sm] at h
    | cons b bs =>
      have hb := hs b (List.mem_cons_self ..)
      rw [sm] at h
      by_cases c : b < 128
      · rw [if_pos c] at h
        by_cases c0 : b = 0
        · rw [if_pos c0] at h; exact absurd h (by simp)
        · rw [if_neg c0] at h
          simp only [Option.some.injEq, Prod.mk.injEq] at h
          obtain ⟨rfl, rfl⟩ := h
          refine ⟨by omega, ?_, by simp⟩
          rw [enc7_small (by omega), Int.toNat_of_nonneg (by omega)]
          rfl
      · rw [if_neg c] at h
        obtain ⟨⟨v', r'⟩, h1, h2⟩ := Option.map_eq_some_iff.1 h
        simp only [Prod.mk.injEq] at h2
        obtain ⟨rfl, rfl⟩ := h2
        obtain ⟨i1, i2, i3⟩ := ih bs v' r' (fun x hx => hs x (List.mem_cons_of_mem _ hx)) h1
        refine ⟨by omega, ?_, by simp only [List.length_cons]; omega⟩
        rw [enc7_great (by omega), show (b - 128 + 128 * v').toNat / 128 = v'.toNat from by omega, List.cons_append, ← i2]
        congr 1
        omega
theorem sm_enc : ∀ (f n : Nat) (r : List Int), 1 ≤ n → n < 128 ^ f → sm f (enc7 n ++ r) = some ((n : Int), r) := by
  intro f
  induction f with
  | zero => intro n r h h'; simp at h'; omega
  | succ f ih =>
    intro n r h h'
    by_cases c : n < 128
    · rw [enc7_small c, List.singleton_append, sm, if_pos (by omega), if_neg (by omega)]
    · rw [enc7_great c, List.cons_append, sm, if_neg (by omega), ih (n / 128) r (by omega) (by rw [Nat.pow_succ] at h'; omega)]
      simp only [Option.map_some, Option.some.injEq, Prod.mk.injEq, and_true]
      omega

/-- From a floor up, each above the one ahead, and none above the top. -/
def Above (p : Int) : List Int → Prop
  | [] => True
  | x :: r => p < x ∧ x ≤ top ∧ Above x r
theorem above_ids {p : Int} {l : List Int} (hp : 0 ≤ p) (h : Above p l) : IsIds l ∧ ∀ x ∈ l, p < x := by
  induction l generalizing p with
  | nil => exact ⟨⟨List.Pairwise.nil, by simp⟩, by simp⟩
  | cons x r ih =>
    obtain ⟨h1, h2, h3⟩ := h
    obtain ⟨⟨i1, i2⟩, i3⟩ := ih (by omega) h3
    refine ⟨⟨List.pairwise_cons.2 ⟨i3, i1⟩, ?_⟩, ?_⟩
    · intro y hy
      rcases List.mem_cons.1 hy with rfl | hy
      · unfold top at h2; omega
      · exact i2 y hy
    · intro y hy
      rcases List.mem_cons.1 hy with rfl | hy
      · exact h1
      · have := i3 y hy; omega
theorem ids_above {l : List Int} (h : IsIds l) : ∀ p, (∀ x ∈ l, p < x) → Above p l := by
  induction l with
  | nil => intro p _; trivial
  | cons x r ih =>
    intro p hp
    obtain ⟨h1, h2⟩ := h
    obtain ⟨h3, h4⟩ := List.pairwise_cons.1 h1
    refine ⟨hp x (List.mem_cons_self ..), ?_, ih ⟨h4, fun y hy => h2 y (List.mem_cons_of_mem _ hy)⟩ x h3⟩
    have := h2 x (List.mem_cons_self ..)
    unfold top; omega
theorem decL_back : ∀ (c : Nat) (p : Int) (bs t : List Int), Small bs → decL c p bs = some t → t.length = c ∧ bs = encL p t ∧ Above p t := by
  intro c
  induction c with
  | zero =>
    intro p bs t _ h
    rw [decL] at h
    split at h
    · next e => simp only [Option.some.injEq] at h; subst h; exact ⟨rfl, by rw [e]; rfl, trivial⟩
    · exact absurd h (by simp)
  | succ c ih =>
    intro p bs t hs h
    rw [decL] at h
    obtain ⟨⟨v, r⟩, h1, h2⟩ := Option.bind_eq_some_iff.1 h
    obtain ⟨s1, s2, s3⟩ := sm_back 8 bs v r hs h1
    by_cases ct : p + v > top
    · rw [if_pos ct] at h2; exact absurd h2 (by simp)
    · rw [if_neg ct] at h2
      obtain ⟨t', h3, rfl⟩ := Option.map_eq_some_iff.1 h2
      have hr : Small r := fun x hx => hs x (by rw [s2]; exact List.mem_append_right _ hx)
      obtain ⟨i1, i2, i3⟩ := ih (p + v) r t' hr h3
      refine ⟨by simp [i1], ?_, by simp only; omega, by simp only; omega, i3⟩
      rw [encL, ← i2, show (p + v - p).toNat = v.toNat from by congr 1; omega]
      exact s2
theorem decL_enc : ∀ (l : List Int) (p : Int) (x : List Int), 0 ≤ p → Above p l → decL l.length p (encL p l ++ x) = if x = [] then some l else none := by
  intro l
  induction l with
  | nil => intro p x _ _; simp [decL, encL]
  | cons y r ih =>
    intro p x hp h
    obtain ⟨h1, h2, h3⟩ := h
    have e : p + ((y - p).toNat : Int) = y := by omega
    rw [List.length_cons, decL, encL, List.append_assoc, sm_enc 8 _ _ (by omega) (by rw [show (128 : Nat) ^ 8 = 72057594037927936 from rfl]; unfold top at h2; omega)]
    simp only [Option.bind_some]
    rw [e, if_neg (by omega), ih y x (by omega) h3]
    by_cases c : x = []
    · simp [c]
    · simp [c]
theorem enc7_byte (n : Nat) : Small (enc7 n) := by
  induction n using enc7.induct with
  | case1 n h => rw [enc7_small h]; intro b hb; simp at hb; omega
  | case2 n h ih =>
    rw [enc7_great h]
    intro b hb
    rcases List.mem_cons.1 hb with rfl | hb
    · omega
    · exact ih b hb
theorem encL_byte (l : List Int) : ∀ p, Small (encL p l) := by
  induction l with
  | nil => intro p b hb; simp [encL] at hb
  | cons x r ih =>
    intro p b hb
    rw [encL] at hb
    rcases List.mem_append.1 hb with hb | hb
    · exact enc7_byte _ b hb
    · exact ih x b hb

/-- Four bytes of a whole number, the least first; and back. -/
def le4 (n : Nat) : List Int := [((n % 256 : Nat) : Int), ((n / 256 % 256 : Nat) : Int), ((n / 65536 % 256 : Nat) : Int), ((n / 16777216 % 256 : Nat) : Int)]
def ofle : List Int → Int
  | [] => 0
  | b :: r => b + 256 * ofle r
theorem le4_small (n : Nat) : Small (le4 n) := by
  intro b hb
  simp only [le4, List.mem_cons, List.not_mem_nil, or_false] at hb
  omega
theorem ofle_le4 {n : Nat} (h : n < 4294967296) : ofle (le4 n) = (n : Int) := by simp only [le4, ofle]; omega
theorem le4_ofle {bs : List Int} (h : Small bs) (hl : bs.length = 4) : le4 (ofle bs).toNat = bs ∧ 0 ≤ ofle bs ∧ ofle bs < 4294967296 := by
  match bs, hl with
  | [a, b, c, d], _ =>
    have ha := h a (by simp)
    have hb := h b (by simp)
    have hc := h c (by simp)
    have hd := h d (by simp)
    simp only [le4, ofle, List.cons.injEq, and_true]
    omega
/-- The whole of it: four bytes for how many, then the ids. -/
def decB (bs : List Int) : List Int × Int := if bs.length < 4 then ([], 80) else match decL (ofle (bs.take 4)).toNat 0 (bs.drop 4) with | none => ([], 80) | some t => (t, 0)
theorem decB_enc {l : List Int} (h : IsIds l) (hl : l.length < 4294967296) (x : List Int) : decB (le4 l.length ++ encL 0 l ++ x) = if x = [] then (l, 0) else ([], 80) := by
  have h4 : (le4 l.length).length = 4 := rfl
  unfold decB
  rw [if_neg (by simp only [List.length_append, h4]; omega), List.append_assoc, List.take_left' h4, List.drop_left' h4, ofle_le4 hl, Int.toNat_natCast, decL_enc l 0 x (by omega) (ids_above h 0 (fun y hy => by have := h.2 y hy; omega))]
  by_cases c : x = []
  · rw [if_pos c, if_pos c]
  · rw [if_neg c, if_neg c]
theorem decB_back {bs l : List Int} {e : Int} (hs : Small bs) (h : decB bs = (l, e)) : (e = 0 ∧ IsIds l ∧ l.length < 4294967296 ∧ bs = le4 l.length ++ encL 0 l) ∨ (e = 80 ∧ l = []) := by
  unfold decB at h
  split at h
  · simp only [Prod.mk.injEq] at h; exact .inr ⟨h.2.symm, h.1.symm⟩
  · next hn =>
    have h4 : (bs.take 4).length = 4 := by rw [List.length_take]; omega
    obtain ⟨e1, e2, e3⟩ := le4_ofle (fun x hx => hs x (List.mem_of_mem_take hx)) h4
    cases hd : decL (ofle (bs.take 4)).toNat 0 (bs.drop 4) with
    | none => rw [hd] at h; simp only [Prod.mk.injEq] at h; exact .inr ⟨h.2.symm, h.1.symm⟩
    | some t =>
      rw [hd] at h
      simp only [Prod.mk.injEq] at h
      obtain ⟨rfl, rfl⟩ := h
      obtain ⟨d1, d2, d3⟩ := decL_back _ 0 _ t (fun x hx => hs x (List.mem_of_mem_drop hx)) hd
      refine .inl ⟨rfl, (above_ids (Int.le_refl 0) d3).1, by omega, ?_⟩
      rw [d1, e1, ← d2, List.take_append_drop]
end Go.Proofs.Ytfhnjdjkchbolaa.H
