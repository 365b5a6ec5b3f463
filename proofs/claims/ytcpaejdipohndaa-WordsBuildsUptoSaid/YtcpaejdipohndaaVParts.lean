/- Words: the reference's Has, Put and Set of lists of ids; the laws of findL and anyL that the statement WordsParts asks. -/
import Derived.Test.YtcpaejdipohndaaVB
import Derived.Test.YtcpaejdipohndaaVCmp5
import Derived.Test.YtcpaejdipohndaaHPut
namespace Go.Proofs.Ytcpaejdipohndaa.V
open Go.RowKit Go.Sort Go.Shelf Go.Lib Go.Maps Go.Proofs.YtcpaejdipohndaaW.PrintWords Go.Proofs.Ytcpaejdipohndaa.PAll Go.Proofs.Ytcpaejdipohndaa.H
set_option linter.unusedVariables false
set_option linter.unusedSimpArgs false
theorem insL_rising {l : List Int} (h : l.Pairwise (· < ·)) (n : Int) : (insL l n).Pairwise (· < ·) := by
  unfold insL
  split
  · exact h
  · rw [List.pairwise_append]
    refine ⟨h.filter _, ?_, ?_⟩
    · rw [List.pairwise_cons]
      exact ⟨fun a ha => by simpa using (List.mem_filter.1 ha).2, h.filter _⟩
    · intro a ha b hb
      have h1 : a < n := by simpa using (List.mem_filter.1 ha).2
      rcases List.mem_cons.1 hb with hb | hb
      · omega
      · have h2 : n < b := by simpa using (List.mem_filter.1 hb).2
        omega
theorem mem_insL {l : List Int} {n x : Int} : x ∈ insL l n ↔ x = n ∨ x ∈ l := by
  unfold insL
  split
  · next h => constructor
              · exact .inr
              · rintro (rfl | h')
                · exact h
                · exact h'
  · next h =>
    rw [List.mem_append, List.mem_cons, List.mem_filter, List.mem_filter]
    simp only [decide_eq_true_eq]
    constructor
    · rintro (⟨h1, _⟩ | rfl | ⟨h1, _⟩)
      · exact .inr h1
      · exact .inl rfl
      · exact .inr h1
    · rintro (rfl | h1)
      · exact .inr (.inl rfl)
      · rcases Int.lt_trichotomy x n with h2 | h2 | h2
        · exact .inl ⟨h1, h2⟩
        · exact absurd (h2 ▸ h1) h
        · exact .inr (.inr ⟨h1, h2⟩)
theorem two_filters (l : List Int) (n : Int) : (l.filter fun x => decide (x < n)).length + (l.filter fun x => decide (n < x)).length ≤ l.length := by
  induction l with
  | nil => simp
  | cons a l ih =>
    rw [List.filter_cons, List.filter_cons, List.length_cons]
    split <;> split <;> simp_all <;> omega
theorem insL_le (l : List Int) (n : Int) : (insL l n).length ≤ l.length + 1 := by
  unfold insL
  split
  · omega
  · next h =>
    rw [List.length_append, List.length_cons]
    have := two_filters l n
    omega

/-- The ids of a list put into a rising one. -/
theorem fold_rising (l : List Int) : ∀ {o : List Int}, o.Pairwise (· < ·) → (l.foldl H.insL o).Pairwise (· < ·) := by
  induction l with
  | nil => intro o h; exact h
  | cons a l ih => intro o h; exact ih (insL_rising h a)
theorem mem_fold (l : List Int) : ∀ {o : List Int} {x : Int}, x ∈ l.foldl H.insL o ↔ x ∈ o ∨ x ∈ l := by
  induction l with
  | nil => intro o x; simp
  | cons a l ih =>
    intro o x
    rw [List.foldl_cons, ih, mem_insL, List.mem_cons]
    constructor
    · rintro ((h | h) | h)
      · exact .inr (.inl h)
      · exact .inl h
      · exact .inr (.inr h)
    · rintro (h | h | h)
      · exact .inl (.inr h)
      · exact .inl (.inl h)
      · exact .inr h
theorem fold_le (l : List Int) : ∀ (o : List Int), (l.foldl H.insL o).length ≤ o.length + l.length := by
  induction l with
  | nil => intro o; simp
  | cons a l ih => intro o; have := ih (H.insL o a); have := insL_le o a; simp only [List.foldl_cons, List.length_cons]; omega
theorem fold_union (l : List Int) : l.foldl H.insL [] = unionL l := H.rising_ext (fold_rising l (by simp)) (union_rising l) (fun x => by rw [mem_fold, mem_unionL]; simp)
theorem put_row_calls {w0 W : World} {v : Value} {xs : List Int} (n : Int) (hB : Below w0.heap.size w0 W) (hr : RowI W w0.heap.size v xs) (hs : xs.Pairwise (· < ·)) (hn : xs.length ≤ 1048576) :
    Calls Try.prog 28 #[v, .int .i64 n] W fun e W' => ∃ u, e = .returned u ∧ RowI W' w0.heap.size u (H.insL xs n) ∧ Below w0.heap.size w0 W' :=
  (H.put_calls (fun _ => True) v xs n w0 W hB hr.toR hs (by omega)).mono fun e W' ⟨u, he, hR, hB2, _⟩ => ⟨u, he, Kd.own_of_R hR, hB2⟩
set_option maxHeartbeats 1000000 in
theorem has_calls (A : Option Addr) (c : Nat) (l : List Int) (x : Int) (w : World) (hr : Kd.C (Kd.int .i64) w A l.length l) (hc : l.length ≤ c) (hn : l.length ≤ 4611686018427387904) :
    Calls Try.prog 21 #[.slice A l.length c, .int .i64 x] w fun e w' => e = .returned (.bool (decide (x ∈ l))) ∧ w' = w := by
  have H0 := Lib.hid hr
  clear hr
  go_enter Try.func21, Try.ntmps21
  go_wp2_with fail
  go_loopw [5] (fun s W => ∃ (k : Nat), k ≤ l.length ∧ s = .int .i64 k ∧ W = w ∧ x ∉ l.take k) (fun s _ => l.length - (intOf s).toNat)
  case atStart => exact ⟨0, Nat.zero_le _, rfl, rfl, by simp⟩
  case round =>
    obtain ⟨k, hk, rfl, rfl, hT⟩ := hrel
    have HT := Lib.hid hT
    clear hT
    by_cases hlt : k < l.length
    · have hlt' : decide ((k : Int) < (l.length : Int)) = true := decide_eq_true (by omega)
      obtain ⟨b0, o0, rfl, hb0, hcs0⟩ := ints_of_C H0.out (by omega)
      have d0 := hcs0 k hlt
      have hT1 : Hid (l.take (k + 1) = l.take k ++ [l.getD k 0]) := Lib.hid (by rw [List.take_succ_eq_append_getElem hlt, List.getD, List.getElem?_eq_getElem hlt]; rfl)
      have HX : Hid (l.getD k 0 ∈ l) := Lib.hid (by rw [List.getD, List.getElem?_eq_getElem hlt]; exact List.getElem_mem hlt)
      have p1 := eq_true (show (0 : Int) ≤ (k : Int) by omega)
      have p2 := eq_true (show (k : Int) < (l.length : Int) by omega)
      have p3 : (k < l.length) = True := eq_true hlt
      clear hcs0
      generalize l.getD k 0 = y at *
      by_cases hxy : y = x
      · have hd2 : decide (y = x) = true := decide_eq_true hxy
        have hd3 : (y == x) = true := by simp [hxy]
        go_wp2_with fail
        go_ret
        exact ⟨by rw [decide_eq_true (show x ∈ l from hxy ▸ HX.out)]; rfl, rfl⟩
      · have hd2 : decide (y = x) = false := decide_eq_false hxy
        have hd3 : (y == x) = false := by simp [hxy]
        go_wp2_with fail
        go_roundw
        case rel => exact ⟨k + 1, by omega, by go_num, by first | rfl | trivial, by rw [hT1.out, List.mem_append]; rintro (h | h); exact HT.out h; simp at h; exact hxy h.symm⟩
        case measure => simp [intOf]; omega
    · have hlt' : decide ((k : Int) < (l.length : Int)) = false := decide_eq_false (by omega)
      go_wp2_with fail
      go_ret
      have h2 := HT.out
      rw [List.take_of_length_le (by omega)] at h2
      exact ⟨by rw [decide_eq_false h2]; rfl, rfl⟩
set_option maxHeartbeats 1000000 in
theorem set_calls (A : Option Addr) (c : Nat) (l : List Int) (w : World) (hr : Kd.C (Kd.int .i64) w A l.length l) (hc : l.length ≤ c) (hn : l.length ≤ 1048576) :
    Calls Try.prog 22 #[.slice A l.length c] w fun e w' => ∃ u, e = .returned u ∧ RowI w' w.heap.size u (unionL l) ∧ Below w.heap.size w w' := by
  have H0 := Lib.hid hr
  clear hr
  go_enter Try.func22, Try.ntmps22
  go_wp2_with fail
  go_loopw [3, 4] (fun v s W => ∃ (k : Nat), k ≤ l.length ∧ s = .int .i64 k ∧ RowI W w.heap.size v ((l.take k).foldl H.insL []) ∧ Below w.heap.size w W) (fun _ s _ => l.length - (intOf s).toNat)
  case atStart => exact ⟨0, Nat.zero_le _, rfl, RowI.nil _ _, Below.refl _ _⟩
  case round =>
    obtain ⟨k, hk, rfl, hR, hB⟩ := hrel
    rename_i v
    have HR := Lib.hid hR
    have HB := Lib.hid hB
    by_cases hlt : k < l.length
    · have hlt' : decide ((k : Int) < (l.length : Int)) = true := decide_eq_true (by omega)
      obtain ⟨b0, o0, rfl, hb0, hcs0⟩ := ints_of_C H0.out (by omega)
      have d0 := (hB.cell (p := ⟨b0, o0 + k, none⟩) hb0).trans (hcs0 k hlt)
      have hT1 : Hid (l.take (k + 1) = l.take k ++ [l.getD k 0]) := Lib.hid (by rw [List.take_succ_eq_append_getElem hlt, List.getD, List.getElem?_eq_getElem hlt]; rfl)
      have p1 := eq_true (show (0 : Int) ≤ (k : Int) by omega)
      have p2 := eq_true (show (k : Int) < (l.length : Int) by omega)
      have p3 : (k < l.length) = True := eq_true hlt
      have hle := fold_le (l.take k) []
      have C := put_row_calls (l.getD k 0) hB hR (fold_rising _ (by simp)) (by simp at hle; omega)
      clear hcs0 hR hB hle
      generalize l.getD k 0 = y at *
      go_wp2_with (go_at_call 28; refine C.mono ?_; rintro e w' ⟨u, rfl, hR2, hB2⟩)
      go_roundw
      case rel => exact ⟨k + 1, by omega, by go_num, by rw [hT1.out, List.foldl_append]; exact hR2, hB2⟩
      case measure => simp [intOf]; omega
    · have hlt' : decide ((k : Int) < (l.length : Int)) = false := decide_eq_false (by omega)
      clear hR hB
      go_wp2_with fail
      go_ret
      have h2 := HR.out
      rw [List.take_of_length_le (by omega), fold_union] at h2
      exact ⟨_, rfl, h2, HB.out⟩
/-! ### the plain law -/
theorem mem_findL {l : List Pt} {name : ByteArray} {v : Va} {id : Int} : id ∈ findL l name v ↔ valOf l name id = some v := by
  unfold findL
  rw [mem_unionL, List.mem_filter]
  constructor
  · rintro ⟨_, h⟩; simpa using h
  · intro h; exact ⟨valOf_mem h, by simp [h]⟩
theorem mem_anyL {l : List Pt} {name : ByteArray} {id : Int} : id ∈ anyL l name ↔ ∃ v, valOf l name id = some v := by
  unfold anyL
  rw [mem_unionL, List.mem_filter]
  constructor
  · rintro ⟨_, h⟩; exact Option.isSome_iff_exists.1 h
  · rintro ⟨v, h⟩; exact ⟨valOf_mem h, by rw [h]; rfl⟩
theorem valOf_good {l : List Pt} (h : GoodL l) {name : ByteArray} {id : Int} {v : Va} (hv : valOf l name id = some v) : GoodV v := by
  unfold valOf at hv
  obtain ⟨p, hp, hg⟩ := Option.bind_eq_some_iff.1 hv
  exact getV_good h (lastP_mem l id p hp).1 hg
def flatI (l : List Pt) (name : ByteArray) (E : List Va) : List Int := E.flatMap (findL l name)
theorem mem_flatI {l : List Pt} {name : ByteArray} {E : List Va} {id : Int} : id ∈ flatI l name E ↔ ∃ v ∈ E, valOf l name id = some v := by
  unfold flatI
  simp only [List.mem_flatMap, mem_findL]
theorem rising_nodup : ∀ {l : List Int}, l.Pairwise (· < ·) → l.Nodup := fun h => h.imp (fun hab e => by omega)
theorem find_nodup (l : List Pt) (name : ByteArray) (v : Va) : (findL l name v).Nodup := rising_nodup (union_rising _)
/-- The ids of the values gone over so far do not hold the next ones. -/
theorem flat_new {l : List Pt} {name : ByteArray} {E : List Va} (hE : IsVals l name E) {i k : Nat} (hi : i < E.length) (hk : k < (findL l name E[i]).length) : (findL l name E[i])[k] ∉ flatI l name (E.take i) ++ (findL l name E[i]).take k := by
  rw [List.mem_append]
  rintro (h | h)
  · obtain ⟨v, hv, e⟩ := mem_flatI.1 h
    have e2 := mem_findL.1 (List.getElem_mem hk)
    rw [e] at e2
    injection e2 with e2
    obtain ⟨j, hj, hje⟩ := List.mem_iff_getElem.1 hv
    rw [List.getElem_take] at hje
    have hj2 : j < i := by simp at hj; omega
    have := List.pairwise_iff_getElem.1 hE.1 j i (by omega) hi hj2
    rw [hje, e2, swo_ltV.irrefl] at this
    cases this
  · obtain ⟨j, hj, hje⟩ := List.mem_iff_getElem.1 h
    rw [List.getElem_take] at hje
    have hj2 : j < k := by simp at hj; omega
    have hr : (findL l name E[i]).Pairwise (· < ·) := union_rising _
    have hx := List.pairwise_iff_getElem.1 hr j k (by omega) hk hj2
    omega
theorem flat_nodup {l : List Pt} {name : ByteArray} {E : List Va} (hE : IsVals l name E) : (flatI l name E).Nodup := by
  have key : ∀ n, n ≤ E.length → (flatI l name (E.take n)).Nodup := by
    intro n
    induction n with
    | zero => intro _; simp [flatI]
    | succ n ih =>
      intro hn
      have hlt : n < E.length := by omega
      rw [List.take_succ_eq_append_getElem hlt]
      unfold flatI
      rw [List.flatMap_append, List.nodup_append]
      refine ⟨ih (by omega), by simpa using find_nodup l name E[n], ?_⟩
      intro a ha b hb e
      subst e
      have hb : a ∈ findL l name E[n] := by simpa using hb
      obtain ⟨k, hk, rfl⟩ := List.mem_iff_getElem.1 hb
      exact flat_new hE hlt hk (List.mem_append.2 (.inl ha))
  have := key E.length (Nat.le_refl _)
  rwa [List.take_length] at this
theorem flat_any {l : List Pt} (hG : GoodL l) {name : ByteArray} {E : List Va} (hE : IsVals l name E) (id : Int) : id ∈ flatI l name E ↔ id ∈ anyL l name := by
  rw [mem_flatI, mem_anyL]
  constructor
  · rintro ⟨v, _, h⟩; exact ⟨v, h⟩
  · rintro ⟨v, h⟩
    refine ⟨v, (hE.2 v).2 ⟨valOf_good hG h, fun e => ?_⟩, h⟩
    have := mem_findL.2 h
    rw [e] at this
    simp at this
theorem flat_union {l : List Pt} (hG : GoodL l) {name : ByteArray} {E : List Va} (hE : IsVals l name E) : unionL (flatI l name E) = anyL l name :=
  H.rising_ext (union_rising _) (union_rising _) (fun x => by rw [mem_unionL, flat_any hG hE])
theorem flat_len {l : List Pt} (hG : GoodL l) {name : ByteArray} {E : List Va} (hE : IsVals l name E) : (flatI l name E).length = (anyL l name).length :=
  ((List.perm_ext_iff_of_nodup (flat_nodup hE) (rising_nodup (union_rising _))).2 (fun x => flat_any hG hE x)).length_eq
theorem flat_le {l : List Pt} {name : ByteArray} {E : List Va} (hE : IsVals l name E) (i : Nat) : (flatI l name (E.take i)).length ≤ l.length := by
  have h1 : (flatI l name (E.take i)).length ≤ (flatI l name E).length := by
    unfold flatI
    conv => rhs; rw [← List.take_append_drop i E]
    rw [List.flatMap_append, List.length_append]; omega
  have := nodup_le (flatI l name E) (l.map (·.f0)) (flat_nodup hE) (fun x hx => by obtain ⟨v, _, h⟩ := mem_flatI.1 hx; exact valOf_mem h)
  simp at this
  omega
theorem cmp_rise {l : List Pt} {name : ByteArray} {E : List Va} (hE : IsVals l name E) {i : Nat} (h0 : 0 < i) (hi : i < E.length) : cmpV E[i - 1] E[i] < 0 := by
  have := List.pairwise_iff_getElem.1 hE.1 (i - 1) i (by omega) hi (by omega)
  unfold ltV at this
  exact of_decide_eq_true this
end Go.Proofs.Ytcpaejdipohndaa.V
