/- Maps whose elements are held as they are: what stands at each key, as a function; read, written, gone over, and written while it is gone over. No function of a program is named. Words: cmp.Compare at whole numbers and at texts, cmp.Or of three, and payload.Compare: the order of values: by kind, then number, then text. Words: payload.Get: the value of the first field of a name. Words: values as keys of a map; an element taken, appended to and laid back; what the index of a field is to hold. Words: rows of ids under the keys of a map; the points of each id; what has been gathered so far; the index whole. Words: laws of the walk for maps of raw elements; the state of words.Build between its steps. Words: the appends of words.Build, at a step of a region that draws and at a plain one; what the state is behind them. Words: words.Build: the index of a field. Words: the methods Find, Any and Len of an index, and of none. -/
import Derived.Test.YtcpaejdipohndaaProg
import Derived.Maps.Own
import Derived.Maps.OwnSet
import Derived.Maps.Views
import Derived.Maps.RangeWalk
import Derived.WalkKit
import Derived.Test.YtcpaejdipohndaaPAllx0
import Derived.ProofKit
import Derived.Deep.QuietTactic
import Derived.BigQuiet
import Derived.StillTailTactics
import Derived.Sort.Grow
import Derived.Sort.Walk0
import Derived.Laws.Strings
import Derived.Shelf.SlSorted.Search
import Derived.Lib.Hide
import Derived.Lib.SliceRun
import Derived.Below
import Derived.RangeFuncRecord
import Derived.Shelf.Abstract
import Derived.IntWalk
import Derived.Shelf.SlicesQ.IndexFunc
import Derived.Test.YtcpaejdipohndaaShelf
import Derived.Test.YtcpaejdipohndaaWRepsOne
import Derived.Test.YtcpaejdipohndaaHUnion
import Derived.DeepKeys4
import Derived.WideKeyEntry
import Derived.AxiomsDeepKeys
import Derived.Deep.AppendLies
import Derived.Deep.RegionLaw
import Derived.Deep.LoopGhost
import Derived.Deep.DeepCutAuto
import Derived.Maps.OwnOps
import Derived.Test.YtcpaejdipohndaaWWords
import Derived.Test.YtcpaejdipohndaaWMore
import Derived.Test.YtcpaejdipohndaaPAllx4
namespace Go.Proofs.Ytcpaejdipohndaa.V
open Go.Maps Go.MapKept Go.ChangeMaps Go.RowKit
open Go.WideElems (Fit rd rg pl rd_key rd_val rg_of rd_mk)
set_option linter.unusedVariables false

/-- An element as it is. -/
def raw (v : Value) : Option (DataW Value × List MemPlace) := some (.held v, [])
/-- What a datum says of each key. -/
structure Says (D : DataW Value) (f : Lit → Option Value) : Prop where
  m : IsMap D
  has : ∀ kl, Maps.has D kl = (f kl).isSome
  at_ : ∀ kl v, f kl = some v → ∀ zd, D.atKey kl zd = .held v
open Classical in
noncomputable def upd (f : Lit → Option Value) (kl : Lit) (v : Value) : Lit → Option Value := fun x => if x = kl then some v else f x
theorem Says.nil : Says (.map []) (fun _ => none) := ⟨isMap_empty, fun _ => rfl, fun _ _ h => by cases h⟩
theorem Says.put {D : DataW Value} {f : Lit → Option Value} (h : Says D f) {kl : Lit} (hk : WideAt.IsKeyLit kl) (v : Value) : Says (D.put kl (.held v)) (upd f kl v) where
  m := h.m.put _ _
  has x := by
    unfold upd
    by_cases e : x = kl
    · subst e; rw [if_pos rfl, has_put_same h.m hk]; rfl
    · rw [if_neg e, has_put_other e, h.has]
  at_ x u hu zd := by
    unfold upd at hu
    by_cases e : x = kl
    · subst e; rw [if_pos rfl] at hu; cases hu; exact atKey_put_same h.m hk _ _
    · rw [if_neg e] at hu; rw [atKey_put_other e]; exact h.at_ x u hu zd
theorem Says.look {D : DataW Value} {f : Lit → Option Value} (h : Says D f) (kl : Lit) (z : Value) : D.atKey kl (.held z) = .held ((f kl).getD z) := by
  cases hf : f kl with
  | none => exact atKey_of_not_has (by rw [h.has, hf]; rfl) _
  | some v => exact h.at_ kl v hf _

/-- Block b is a map of at most n entries; at key kl stands f kl. -/
def MapF (P : Program) (k : TypeId) (w : World) (b n : Nat) (f : Lit → Option Value) : Prop := ∃ D, w.ownsMap P k raw b n D ∧ Says D f
/-- .. gone over by the iterator r: left: what is still to come. -/
def GoF (P : Program) (k : TypeId) (w : World) (b r n : Nat) (f : Lit → Option Value) (left : Lit → Bool) (cnt : Nat) : Prop := ∃ D, w.ranges P k raw b r n D left cnt ∧ Says D f
section
variable {P : Program} {k : TypeId} {w w' : World} {b r n : Nat} {f : Lit → Option Value} {left : Lit → Bool} {cnt : Nat}
theorem MapF.made (w : World) (P : Program) (k : TypeId) : MapF P k (w.alloc (.map #[] 0)) w.heap.size 0 (fun _ => none) := ⟨_, World.ownsMap_made w P k raw, Says.nil⟩
theorem MapF.mono (h : MapF P k w b n f) {m : Nat} (hm : n ≤ m) : MapF P k w b m f := by obtain ⟨D, h1, h2⟩ := h; exact ⟨D, h1.mono hm, h2⟩
theorem MapF.lt (h : MapF P k w b n f) : b < w.heap.size := by obtain ⟨D, h1, _⟩ := h; exact h1.lt
theorem MapF.block (h : MapF P k w b n f) (hb : w'.heap[b]? = w.heap[b]?) : MapF P k w' b n f := by
  obtain ⟨D, ⟨es, clock, h1, h2, h3, h4⟩, h5⟩ := h
  exact ⟨D, ⟨es, clock, hb.trans h1, h2, h3, h4⟩, h5⟩
theorem MapF.below (h : MapF P k w b n f) (hb : Below w.heap.size w w') : MapF P k w' b n f := h.block (hb.block _ h.lt)
theorem MapF.kept (h : MapF P k w b n f) {row : Option Nat} (hg : w.grownBy w' row) (hne : some b ≠ row) : MapF P k w' b n f := h.block (hg.block _ h.lt hne)
theorem GoF.owns (h : GoF P k w b r n f left cnt) : MapF P k w b n f := by obtain ⟨D, h1, h2⟩ := h; exact ⟨D, h1.owns, h2⟩
theorem GoF.lt (h : GoF P k w b r n f left cnt) : r < w.heap.size := by obtain ⟨D, h1, _⟩ := h; exact h1.lt
theorem GoF.kept (h : GoF P k w b r n f left cnt) {row : Option Nat} (hg : w.grownBy w' row) (h1 : some b ≠ row) (h2 : some r ≠ row) : GoF P k w' b r n f left cnt := by obtain ⟨D, h3, h4⟩ := h; exact ⟨D, h3.kept hg h1 h2, h4⟩
theorem GoF.below (h : GoF P k w b r n f left cnt) (hb : Below w.heap.size w w') : GoF P k w' b r n f left cnt :=
  h.kept (row := none) ⟨hb.os, hb.tape, hb.output, hb.size, fun k hk _ => hb.block k hk⟩ (by simp) (by simp)
theorem GoF.left_eq (h : GoF P k w b r n f left cnt) : w.rangeLeft b r = cnt := by obtain ⟨D, h1, _⟩ := h; exact h1.left_eq
/-- What is there is a key that some value reads as. -/
theorem MapF.key (h : MapF P k w b n f) {kl : Lit} {v : Value} (hf : f kl = some v) : ∃ key, keyOf P k key = some kl := by
  obtain ⟨D, ⟨es, clock, h1, F, h3, rfl⟩, h5⟩ := h
  have hh := h5.has kl
  rw [hf] at hh
  obtain ⟨p, hp, hs⟩ := List.any_eq_true.1 hh
  obtain ⟨x, hx, rfl⟩ := List.mem_map.1 (mem_sorted.1 hp)
  obtain ⟨y, hy⟩ := F.reads x hx
  have e := WideAt.sameKey_eq hs
  rw [rg_of hy] at e
  exact ⟨x.key, by rw [rd_key hy, e]⟩
/-- 'm[k]'. -/
theorem MapF.lookup {t e : TypeId} (h : MapF P k w b n f) (K : Keyed P k) (ht : P.underlying t = some (.map k e)) {z : Value} (hz : (zeroValue e).run P w = .ok z w) {key : Value} {kl : Lit} (hkey : keyOf P k key = some kl) :
    (Instr.lookup t (.map (some b)) key false).run P w = .ok ((f kl).getD z) w := by
  obtain ⟨D, h1, h2⟩ := h
  obtain ⟨v, ps, hrun, hv⟩ := h1.lookup K ht hz (zd := .held z) (zp := []) rfl hkey
  rw [h2.look] at hv
  injection hv with hv
  injection hv with hv _
  injection hv with hv
  rw [hrun, hv]
/-- 'm[k]' with ok. -/
theorem MapF.look_ok {t e : TypeId} (h : MapF P k w b n f) (K : Keyed P k) (ht : P.underlying t = some (.map k e)) {z : Value} (hz : (zeroValue e).run P w = .ok z w) {key : Value} {kl : Lit} (hkey : keyOf P k key = some kl) :
    (Instr.lookup t (.map (some b)) key true).run P w = .ok (.tuple #[(f kl).getD z, .bool (f kl).isSome]) w := by
  obtain ⟨D, h1, h2⟩ := h
  obtain ⟨v, ps, hrun, hv⟩ := h1.look_ok K ht hz (zd := .held z) (zp := []) rfl hkey
  rw [h2.look] at hv
  injection hv with hv
  injection hv with hv _
  injection hv with hv
  rw [hrun, hv, h2.has]
/-- 'm[k] = v'. -/
theorem MapF.update {t e : TypeId} (h : MapF P k w b n f) (K : Keyed P k) (ht : P.underlying t = some (.map k e)) (hn : n < maxLen) {key val : Value} {kl : Lit} (hkey : keyOf P k key = some kl) :
    ∃ w', (Instr.mapUpdate t (.map (some b)) key val).run P w = .ok () w' ∧ MapF P k w' b (n + 1) (upd f kl val) ∧ w.grownBy w' (some b) := by
  obtain ⟨D, h1, h2⟩ := h
  obtain ⟨w', hrun, h3, h4⟩ := h1.update K ht hn hkey (val := val) (d := .held val) (ps := []) rfl
  exact ⟨w', hrun, ⟨_, h3, h2.put (K.key hkey) val⟩, h4⟩
theorem leftOf_set {l : List MapEntry} {j : Nat} {e0 e1 : MapEntry} (h : l[j]? = some e0) (he : e1.born = e0.born) (seen : Array Nat) : (leftOf (l.set j e1).toArray seen).size = (leftOf l.toArray seen).size := by
  have e : ∀ m : List MapEntry, (leftOf m.toArray seen).size = (m.filter fun e => !seen.contains e.born).length := fun m => by
    unfold leftOf
    rw [← Array.length_toList, Array.toList_filter]
  have hj := (List.getElem?_eq_some_iff.1 h).1
  have hx := (List.getElem?_eq_some_iff.1 h).2
  rw [e, e, List.set_eq_take_append_cons_drop, if_pos hj]
  conv => rhs; rw [← List.take_append_drop j l, List.drop_eq_getElem_cons hj, hx]
  rw [List.filter_append, List.filter_append, List.length_append, List.length_append, List.filter_cons, List.filter_cons, he]
  split <;> simp
/-- 'm[k] = v' AT A KEY THAT IS THERE, while the map is gone over: what is to come stays as it was. -/
theorem ranges_store {t e : TypeId} {D : DataW Value} (h : w.ranges P k raw b r n D left cnt) (K : Keyed P k) (ht : P.underlying t = some (.map k e)) (hn : n < maxLen) {key val : Value} {kl : Lit} (hkey : keyOf P k key = some kl) (hhas : Maps.has D kl = true) :
    ∃ w', (Instr.mapUpdate t (.map (some b)) key val).run P w = .ok () w' ∧ w'.ranges P k raw b r n (D.put kl (.held val)) left cnt ∧ w.grownBy w' (some b) := by
  have hne := h.ne
  obtain ⟨es, clock, since, seen, c0, hb, F, hs, rfl, hr, hold, hcnt, hl1, hl2, hsc, hsk⟩ := h
  obtain ⟨es', clock', hrun, F', hput, -, -, -⟩ := Maps.fit_store (R' := raw) K ht hb F (Nat.lt_of_le_of_lt hs hn) (fun _ _ _ _ hz => hz) hkey (val := val) (yv := (.held val, [])) rfl
  rcases K.find w hkey es.toList F.keys with ⟨h1, h2⟩ | ⟨j, e0, h1, h2, h3⟩
  · exfalso
    obtain ⟨p, hp, hsk⟩ := List.any_eq_true.1 hhas
    obtain ⟨x, hx, rfl⟩ := List.mem_map.1 (mem_sorted.1 hp)
    obtain ⟨y, hy⟩ := F.reads x hx
    have e := WideAt.sameKey_eq hsk
    rw [rg_of hy] at e
    exact h2 x hx (K.inj (rd_key hy) (by rw [e]; exact hkey))
  · have hj : es[j]? = some e0 := by simpa using h2
    have hrun2 : (Instr.mapUpdate t (.map (some b)) key val).run P w = .ok () (setBlock w b (.map (es.modify j (fun e' => { e' with key := key, val := val })) clock)) := by
      simp [Instr.mapUpdate, run_underlying ht, MapKept.run_getObj_map hb, K.check w false hkey, h1, hj, h3, K.stays w hkey, MapKept.run_setObj_map _ hb, Result.andThen, setBlock]
    rw [hrun] at hrun2
    injection hrun2 with _ hw
    have hob := congrArg (fun x : World => x.heap[b]?) hw
    rw [heap_setBlock_same hb, heap_setBlock_same hb] at hob
    injection hob with hob
    injection hob with hes hck
    subst hck
    have hlist : es'.toList = es.toList.set j { e0 with key := key, val := val } := by rw [hes, Array.toList_modify, modify_eq_set _ _ _ _ h2]
    have he0 : e0 ∈ es.toList := List.mem_of_getElem? h2
    -- each entry of the new array is one of the old ones, but for its element
    have who : ∀ x ∈ es'.toList, ∃ x0 ∈ es.toList, x.born = x0.born ∧ (rg P k raw x).1 = (rg P k raw x0).1 := by
      intro x hx
      rw [hlist] at hx
      rcases List.mem_or_eq_of_mem_set hx with hx | rfl
      · exact ⟨x, hx, rfl, rfl⟩
      · refine ⟨e0, he0, rfl, ?_⟩
        obtain ⟨y, hy⟩ := F.reads e0 he0
        rw [rg_of (rd_mk (R := raw) (born := e0.born) hkey rfl), rg_of hy]
        have := rd_key hy
        rw [h3, hkey] at this
        injection this
    have back : ∀ x0 ∈ es.toList, ∃ x ∈ es'.toList, (rg P k raw x).1 = (rg P k raw x0).1 := by
      intro x0 hx0
      obtain ⟨i, hi, rfl⟩ := List.getElem_of_mem hx0
      by_cases e : i = j
      · subst e
        refine ⟨{ e0 with key := key, val := val }, by rw [hlist]; exact List.mem_set hi _, ?_⟩
        have ee : es.toList[i] = e0 := (List.getElem?_eq_some_iff.1 h2).2
        obtain ⟨y, hy⟩ := F.reads e0 he0
        rw [ee, rg_of (rd_mk (R := raw) (born := e0.born) hkey rfl), rg_of hy]
        have := rd_key hy
        rw [h3, hkey] at this
        injection this
      · refine ⟨es.toList[i], ?_, rfl⟩
        rw [hlist]
        have : (es.toList.set j { e0 with key := key, val := val })[i]? = some es.toList[i] := by rw [List.getElem?_set_ne (fun h => e h.symm), List.getElem?_eq_getElem hi]
        exact List.mem_of_getElem? this
    refine ⟨_, hrun, ⟨es', clock', since, seen, c0, heap_setBlock_same hb _, F', ?_, ?_, (heap_setBlock_other hb _ hne).trans hr, ?_, ?_, ?_, ?_, hsc, hsk⟩, ⟨rfl, rfl, rfl, by simp [setBlock], fun i _ hi => heap_setBlock_other hb _ (fun e => hi (by rw [e]))⟩⟩
    · rw [hes]; simpa using hs
    · rw [DataW.put_eq, hput]
    · intro x hx
      obtain ⟨x0, hx0, e1, _⟩ := who x hx
      rw [e1]; exact hold x0 hx0
    · rw [← hcnt]
      have e1 : es' = (es.toList.set j { e0 with key := key, val := val }).toArray := by rw [← hlist]
      rw [e1]
      exact leftOf_set (e1 := { e0 with key := key, val := val }) h2 rfl seen
    · intro x hx
      obtain ⟨x0, hx0, e1, e2⟩ := who x hx
      rw [e1, e2]; exact hl1 x0 hx0
    · intro kl' hk'
      obtain ⟨x0, hx0, rfl⟩ := hl2 kl' hk'
      exact back x0 hx0
theorem GoF.store {t e : TypeId} (h : GoF P k w b r n f left cnt) (K : Keyed P k) (ht : P.underlying t = some (.map k e)) (hn : n < maxLen) {key val : Value} {kl : Lit} (hkey : keyOf P k key = some kl) {u : Value} (hf : f kl = some u) :
    ∃ w', (Instr.mapUpdate t (.map (some b)) key val).run P w = .ok () w' ∧ GoF P k w' b r n (upd f kl val) left cnt ∧ w.grownBy w' (some b) := by
  obtain ⟨D, h1, h2⟩ := h
  obtain ⟨w', hrun, h3, h4⟩ := ranges_store h1 K ht hn hkey (val := val) (by rw [h2.has, hf]; rfl)
  exact ⟨w', hrun, ⟨_, h3, h2.put (K.key hkey) val⟩, h4⟩
/-- 'range m'. -/
theorem MapF.range {t e : TypeId} (h : MapF P k w b n f) (K : Keyed P k) (ht : P.underlying t = some (.map k e)) :
    ∃ w' left cnt, (Instr.range t (.map (some b))).run P w = .ok (.pointer (some ⟨w.heap.size, 0, none⟩)) w' ∧ GoF P k w' b w.heap.size n f left cnt ∧ (∀ kl, left kl = (f kl).isSome) ∧ w.grownBy w' none ∧ w'.heap.size = w.heap.size + 1 := by
  obtain ⟨D, h1, h2⟩ := h
  obtain ⟨w', hrun, h3, h4, h5⟩ := h1.range K ht
  exact ⟨w', _, _, hrun, ⟨D, h3, h2⟩, h2.has, h4, h5⟩
/-- The step. -/
theorem GoF.next (h : GoF P k w b r n f left cnt) (K : Keyed P k) (ty : TypeId) :
    (cnt = 0 ∧ (∀ kl, left kl = false) ∧ (Instr.next (.pointer (some ⟨r, 0, none⟩)) false ty).run P w = .ok (.tuple #[.bool false]) w) ∨
    ∃ key v kl w' cnt', keyOf P k key = some kl ∧ left kl = true ∧ f kl = some v ∧ (Instr.next (.pointer (some ⟨r, 0, none⟩)) false ty).run P w = .ok (.tuple #[.bool true, key, v]) w' ∧
      GoF P k w' b r n f (fun x => left x && !x.sameKey kl) cnt' ∧ cnt' < cnt ∧ w.grownBy w' (some r) ∧ w'.heap.size = w.heap.size ∧ (Instr.entry (.pointer (some ⟨r, 0, none⟩))).run P w' = .ok (.tuple #[key, v]) w' := by
  obtain ⟨D, h1, h2⟩ := h
  rcases h1.next K ty with h | ⟨key, v, kl, y, w', cnt', hk, hl, hv, hat, hrun, h3, h4, h5, h6, h7⟩
  · exact .inl h
  · refine .inr ⟨key, v, kl, w', cnt', hk, hl, ?_, hrun, ⟨D, h3, h2⟩, h4, h5, h6, h7⟩
    injection hv with hv
    subst hv
    have hh := has_true_of_atKey hat
    rw [h2.has] at hh
    obtain ⟨u, hu⟩ := Option.isSome_iff_exists.1 hh
    have e := (h2.at_ kl u hu (.held v)).symm.trans (hat _)
    injection e with e
    rw [hu, e]
end
end Go.Proofs.Ytcpaejdipohndaa.V
namespace Go.Proofs.Ytcpaejdipohndaa.V
open Go.RowKit Go.Lib Go.Proofs.Ytcpaejdipohndaa.PAll
open Go.Sort
set_option linter.unusedVariables false

abbrev Va := S24
def cmpI (x y : Int) : Int := if x < y then -1 else if x > y then 1 else 0
/-- Texts, by their bytes. -/
def cmpS (x y : ByteArray) : Int := if Op.bytesLess x.toList y.toList = true then -1 else if (!(Op.bytesLess x.toList y.toList || x.toList == y.toList)) = true then 1 else 0
def orI (x y : Int) : Int := if x = 0 then y else x
/-- By kind, then number, then text. -/
def cmpV (x y : Va) : Int := orI (cmpI x.f0 y.f0) (orI (cmpI x.f1 y.f1) (cmpS x.f2 y.f2))
theorem nan_calls (x : Int) (w : World) : Calls Try.prog 66 #[.int .i64 x] w fun e w' => e = .returned (.bool false) ∧ w' = w := by
  go_enter Try.func66, Try.ntmps66
  go_wp2
  go_ret
  exact ⟨by simp, rfl⟩
theorem cmp_calls (x y : Int) (w : World) : Calls Try.prog 43 #[.int .i64 x, .int .i64 y] w fun e w' => e = .returned (.int .i64 (cmpI x y)) ∧ w' = w := by
  go_enter Try.func43, Try.ntmps43
  go_wp2_with (go_at_call 66; refine (nan_calls _ _).mono ?_; rintro e w' ⟨rfl, hw⟩; rw [hw])
  all_goals (go_ret; refine ⟨?_, rfl⟩; unfold cmpI; (repeat' split) <;> first | rfl | (exfalso; omega))
theorem nanS_calls (x : ByteArray) (w : World) : Calls Try.prog 67 #[.string x] w fun e w' => e = .returned (.bool false) ∧ w' = w := by
  go_enter Try.func67, Try.ntmps67
  go_wp2
  go_ret
  exact ⟨by simp, rfl⟩
set_option maxHeartbeats 1000000 in
theorem cmpS_calls (x y : ByteArray) (w : World) : Calls Try.prog 44 #[.string x, .string y] w fun e w' => e = .returned (.int .i64 (cmpS x y)) ∧ w' = w := by
  by_cases h1 : Op.bytesLess x.toList y.toList = true
  · have e : cmpS x y = -1 := by unfold cmpS; rw [if_pos h1]
    rw [e]
    clear e
    go_enter Try.func44, Try.ntmps44
    go_wp2_with (go_at_call 67; refine (nanS_calls _ _).mono ?_; rintro e w' ⟨rfl, hw⟩; rw [hw])
    all_goals (go_ret; exact ⟨rfl, rfl⟩)
  · have h1' : Op.bytesLess x.toList y.toList = false := by simpa using h1
    by_cases h2 : (x.toList == y.toList) = true
    · have e : cmpS x y = 0 := by unfold cmpS; rw [if_neg h1, if_neg (by rw [h2]; simp)]
      rw [e]
      clear e h1
      go_enter Try.func44, Try.ntmps44
      go_wp2_with (go_at_call 67; refine (nanS_calls _ _).mono ?_; rintro e w' ⟨rfl, hw⟩; rw [hw])
      all_goals (go_ret; exact ⟨rfl, rfl⟩)
    · have h2' : (x.toList == y.toList) = false := by simpa using h2
      have e : cmpS x y = 1 := by unfold cmpS; rw [if_neg h1, if_pos (by rw [h1', h2']; rfl)]
      rw [e]
      clear e h1 h2
      go_enter Try.func44, Try.ntmps44
      go_wp2_with (go_at_call 67; refine (nanS_calls _ _).mono ?_; rintro e w' ⟨rfl, hw⟩; rw [hw])
      all_goals (go_ret; exact ⟨rfl, rfl⟩)
theorem or_calls (b : Nat) (x y z : Int) (w : World) (h0 : w.cell? ⟨b, 0, none⟩ = some (.int .i64 x)) (h1 : w.cell? ⟨b, 1, none⟩ = some (.int .i64 y)) (h2 : w.cell? ⟨b, 2, none⟩ = some (.int .i64 z)) :
    Calls Try.prog 42 #[.slice (some ⟨b, 0, none⟩) 3 3] w fun e w' => e = .returned (.int .i64 (orI x (orI y z))) ∧ w' = w := by
  go_enter Try.func42, Try.ntmps42
  go_wp2
  go_loopw [8] (fun s wr => ∃ i : Nat, i ≤ 3 ∧ s = .int .i64 i ∧ wr = w ∧ (1 ≤ i → x = 0) ∧ (2 ≤ i → y = 0) ∧ (3 ≤ i → z = 0)) (fun s _ => 3 - (intOf s).toNat)
  case atStart => exact ⟨0, by omega, rfl, rfl, by omega, by omega, by omega⟩
  case round =>
    obtain ⟨i, hi, rfl, rfl, hx, hy, hz⟩ := hrel
    match i, hi with
    | 0, _ =>
      by_cases hc : x = 0
      · subst hc
        go_wp2
        exact ⟨⟨1, by simp⟩, by simp [intOf]⟩
      · have hb : (x != 0) = true := bne_iff_ne.mpr hc
        go_wp2
        all_goals (go_ret; exact ⟨by unfold orI; rw [if_neg hc]; rfl, rfl⟩)
    | 1, _ =>
      obtain rfl := hx (by omega)
      by_cases hc : y = 0
      · subst hc
        go_wp2
        exact ⟨⟨2, by simp⟩, by simp [intOf]⟩
      · have hb : (y != 0) = true := bne_iff_ne.mpr hc
        go_wp2
        all_goals (go_ret; exact ⟨by unfold orI; rw [if_pos rfl, if_neg hc]; rfl, rfl⟩)
    | 2, _ =>
      obtain rfl := hx (by omega)
      obtain rfl := hy (by omega)
      by_cases hc : z = 0
      · subst hc
        go_wp2
        exact ⟨⟨3, by simp⟩, by simp [intOf]⟩
      · have hb : (z != 0) = true := bne_iff_ne.mpr hc
        go_wp2
        all_goals (go_ret; exact ⟨by unfold orI; rw [if_pos rfl, if_pos rfl]; rfl, rfl⟩)
    | 3, _ =>
      obtain rfl := hx (by omega)
      obtain rfl := hy (by omega)
      obtain rfl := hz (by omega)
      go_wp2
      go_ret
      exact ⟨rfl, rfl⟩
theorem still_tail {P : Program} {id : Nat} {Q : Exit → Act → World → Prop} {a : Act} {w : World} {l : List Oper} (n : Nat) (hm : P.follows .mixedOrders = true) (hB : Region.lexTailB .any l.toArray n = true)
    (h : wpStill P l.toArray w.drew (fun a' => wpList P l.toArray Q (l.drop n) a' w.drew) (l.take n) a) : (Code.region id l.toArray true).wp P Q a w := wp_region_still_tail n hm hB h
theorem cell_of_blk {W : World} {b j : Nat} {cs : Array Value} {t : TypeId} {v : Value} (h : W.heap[b]? = some (.cells cs t (0, 0))) (hj : cs[j]? = some v) : W.cell? ⟨b, j, none⟩ = some v := by simp only [World.cell?, h]; exact hj
set_option maxRecDepth 100000 in
set_option maxHeartbeats 4000000 in
/-- The order of two values: in whatever world; blocks are laid. -/
theorem compare_calls (x y : Va) (W : World) : Calls Try.prog 31 #[.agg #[.int .i64 x.f0, .int .i64 x.f1, .string x.f2], .agg #[.int .i64 y.f0, .int .i64 y.f1, .string y.f2]] W fun e w' => e = .returned (.int .i64 (cmpV x y)) ∧ ∃ q os', w' = grow (W.drewN q) os' := by
  obtain ⟨x0, x1, x2⟩ := x
  obtain ⟨y0, y1, y2⟩ := y
  have C1 := fun W' => cmp_calls x0 y0 W'
  have C2 := fun W' => cmp_calls x1 y1 W'
  have C3 := fun W' => cmpS_calls x2 y2 W'
  have H1 : Hid (cmpV ⟨x0, x1, x2⟩ ⟨y0, y1, y2⟩ = orI (cmpI x0 y0) (orI (cmpI x1 y1) (cmpS x2 y2))) := Lib.hid rfl
  generalize cmpV ⟨x0, x1, x2⟩ ⟨y0, y1, y2⟩ = r at H1 ⊢
  generalize cmpI x0 y0 = a at C1 H1
  generalize cmpI x1 y1 = b at C2 H1
  generalize cmpS x2 y2 = c at C3 H1
  dsimp only
  have b0 : ((W.alloc (.cells #[.int .i64 x0, .int .i64 x1, .string x2] 24)).alloc (.cells #[.int .i64 y0, .int .i64 y1, .string y2] 24)).heap[W.heap.size]? = some (.cells #[.int .i64 x0, .int .i64 x1, .string x2] 24 (0, 0)) := (Below.heap_alloc _ _ _ (by simp)).trans (World.alloc_heap_new W _)
  have b1 : ((W.alloc (.cells #[.int .i64 x0, .int .i64 x1, .string x2] 24)).alloc (.cells #[.int .i64 y0, .int .i64 y1, .string y2] 24)).heap[W.heap.size + 1]? = some (.cells #[.int .i64 y0, .int .i64 y1, .string y2] 24 (0, 0)) := by have h := World.alloc_heap_new (W.alloc (.cells #[.int .i64 x0, .int .i64 x1, .string x2] 24)) (.cells #[.int .i64 y0, .int .i64 y1, .string y2] 24); rwa [World.size_alloc] at h
  go_enter Try.func31, Try.ntmps31
  go_wp2_with fail
  have k0 := cell_of_blk b0 (j := 0) rfl
  have k1 := cell_of_blk b0 (j := 1) rfl
  have k2 := cell_of_blk b0 (j := 2) rfl
  have k3 := cell_of_blk b1 (j := 0) rfl
  have k4 := cell_of_blk b1 (j := 1) rfl
  have k5 := cell_of_blk b1 (j := 2) rfl
  clear b0 b1
  generalize hW2 : ((W.alloc (.cells #[.int .i64 x0, .int .i64 x1, .string x2] 24)).alloc (.cells #[.int .i64 y0, .int .i64 y1, .string y2] 24)) = W2 at k0 k1 k2 k3 k4 k5 ⊢
  have HW2 := Lib.hid hW2
  clear hW2
  refine still_tail 15 (by kernel_rfl) (by kernel_rfl) ?_
  simp only [List.take_succ_cons, List.take_zero, List.drop_succ_cons, List.drop_zero]
  still_step
  still_step
  still_step
  still_step
  still_call (C1 _)
  still_step
  still_step
  still_step
  still_step
  still_call (C2 _)
  still_step
  still_step
  still_step
  still_step
  still_call (C3 _)
  refine wpStill_nil ?_
  go_wp2_with (go_at_call 42; refine (or_calls _ a b c _ ?o1 ?o2 ?o3).mono ?_; (case o1 => simp); (case o2 => simp); (case o3 => simp); rintro e W1 ⟨rfl, rfl⟩)
  go_ret
  exact ⟨by rw [H1.out]; rfl, 1, _, by rw [← HW2.out, alloc_eq_grow, alloc_eq_grow, alloc_eq_grow, grow_grow, grow_grow, drew_grow]; rfl⟩
end Go.Proofs.Ytcpaejdipohndaa.V
namespace Go.Proofs.Ytcpaejdipohndaa.V
open Go.RowKit Go.Sort Go.Shelf Go.Lib Go.Proofs.YtcpaejdipohndaaW.PrintWords Go.Proofs.Ytcpaejdipohndaa.PAll
set_option linter.unusedVariables false

abbrev Fi := S35
def encF (x : Fi) : List Value := [.string x.f0, .int .i64 x.f1.f0, .int .i64 x.f1.f1, .string x.f1.f2]
instance : Inhabited Fi := ⟨z35⟩
/-- The value of the first field of a name. -/
def getV (fs : List Fi) (name : ByteArray) : Option Va := (fs.find? fun f => f.f0.toList == name.toList).map (·.f1)
theorem fs_of_C {w : World} {A : Option Addr} {xs : List Fi} (h : Kd.C k35 w A xs.length xs) (hn : 0 < xs.length) :
    ∃ b off, A = some ⟨b, off, none⟩ ∧ b < w.heap.size ∧ ∀ j, j < xs.length → w.cell? ⟨b, off + j * 4, none⟩ = some (.string xs[j]!.f0) ∧ w.cell? ⟨b, off + j * 4 + 1, none⟩ = some (.int .i64 xs[j]!.f1.f0) ∧ w.cell? ⟨b, off + j * 4 + 2, none⟩ = some (.int .i64 xs[j]!.f1.f1) ∧ w.cell? ⟨b, off + j * 4 + 3, none⟩ = some (.string xs[j]!.f1.f2) := by
  obtain ⟨ad, rfl, h00, -⟩ := at_T35 h 0 (Int.le_refl _) (by omega)
  obtain ⟨b, off, sp⟩ := ad
  have hsp : sp = none := by
    cases sp with
    | none => rfl
    | some s =>
      simp only [Int.toNat_zero, Nat.zero_mul, Addr.add, if_true, World.cell?] at h00
      split at h00 <;> simp at h00
  subst hsp
  have hb : b < w.heap.size := World.block_lt_of_cell? w _ h00
  refine ⟨b, off, rfl, hb, fun j hj => ?_⟩
  obtain ⟨ad, e, h1, h2, h3, h4⟩ := at_T35 h (j : Int) (by omega) (by omega)
  cases e
  have ea : ((⟨b, off, none⟩ : Addr).add ((j : Int).toNat * 4)) = ⟨b, off + j * 4, none⟩ := by unfold Addr.add; split <;> simp_all
  rw [ea] at h1 h2 h3 h4
  have er : rd_T35 xs (j : Int) = xs[j]! := by unfold rd_T35; simp [hj]
  rw [er] at h1 h2 h3 h4
  exact ⟨h1, h2, h3, h4⟩
/-- The closure: has the field the name? -/
theorem pred_name (name : ByteArray) (B : Nat) (w : World) (hB : B < w.heap.size) (hcell : w.cell? ⟨B, 0, none⟩ = some (.string name)) :
    PredBelow Try.prog 35 #[.pointer (some ⟨B, 0, none⟩)] (fun x => .agg (encF x).toArray) (fun x => x.f0.toList == name.toList) w := fun W x hb => by
  have hc : W.cell? ⟨B, 0, none⟩ = some (.string name) := (hb.cell (p := ⟨B, 0, none⟩) hB).trans hcell
  have hBW : B < W.heap.size := Nat.lt_of_lt_of_le hB hb.size
  have hne : B ≠ W.heap.size := by omega
  show Calls Try.prog 35 #[.agg #[.string x.f0, .int .i64 x.f1.f0, .int .i64 x.f1.f1, .string x.f1.f2], .pointer (some ⟨B, 0, none⟩)] W _
  go_enter Try.func35, Try.ntmps35
  go_wp2
  all_goals (go_ret; exact ⟨rfl, hb.alloc hb.size _⟩)
/-- slices.IndexFunc on no field. -/
theorem index_none (A : Option Addr) (c : Nat) (fv : Value) (w : World) :
    Calls Try.prog 34 #[.slice A 0 c, fv] w fun e w' => e = .returned (.int .i64 (-1)) ∧ w' = w := by
  go_enter Try.func34, Try.ntmps34
  go_wp2
  go_loopg [5, 8] 0 (fun gg _ s8 wr => s8 = .int .i64 0 ∧ wr = w)
  case atStart => exact ⟨rfl, rfl⟩
  case round =>
    obtain ⟨rfl, rfl⟩ := hrel
    go_wp2
    go_ret
    exact ⟨rfl, rfl⟩
theorem idx_find {α : Type} [Inhabited α] (es : List α) (p : α → Bool) : (Lib.idxBy (fun _ y => p y) es default = -1 ∧ es.find? p = none) ∨ ∃ k, k < es.length ∧ Lib.idxBy (fun _ y => p y) es default = (k : Int) ∧ es.find? p = some es[k]! := by
  have h : ∀ (es : List α) (i : Nat), (Lib.idxByFrom (fun _ y => p y) default es i = -1 ∧ es.find? p = none) ∨ ∃ k, k < es.length ∧ Lib.idxByFrom (fun _ y => p y) default es i = ((i + k : Nat) : Int) ∧ es.find? p = some es[k]! := by
    intro es
    induction es with
    | nil => intro i; exact Or.inl ⟨rfl, rfl⟩
    | cons x r ih =>
      intro i
      unfold Lib.idxByFrom
      rw [List.find?_cons]
      by_cases hx : p x = true
      · rw [if_pos hx, hx]
        exact Or.inr ⟨0, by simp, rfl, rfl⟩
      · have hx' : p x = false := by simpa using hx
        rw [if_neg hx, hx']
        rcases ih (i + 1) with ⟨h1, h2⟩ | ⟨k, hk, h1, h2⟩
        · exact Or.inl ⟨h1, h2⟩
        · refine Or.inr ⟨k + 1, by simp; omega, by rw [h1]; congr 1; omega, ?_⟩
          rw [h2]; simp [hk]
  rcases h es 0 with h | ⟨k, hk, h1, h2⟩
  · exact Or.inl h
  · exact Or.inr ⟨k, hk, by rw [Nat.zero_add] at h1; exact h1, h2⟩
def vOf (o : Option Va) : Value := .tuple #[.agg #[.int .i64 (o.getD z24).f0, .int .i64 (o.getD z24).f1, .string (o.getD z24).f2], .bool o.isSome]
def GOut (w : World) (o : Option Va) (e : Ending) (w' : World) : Prop := e = .returned (vOf o) ∧ Below w.heap.size w w'
theorem zeroV : (⟨#[]⟩ : ByteArray) = ByteArray.empty := rfl
set_option maxHeartbeats 2000000 in
theorem get_calls (A : Option Addr) (c : Nat) (fs : List Fi) (name : ByteArray) (w : World) (hC : Kd.C k35 w A fs.length fs) (hc0 : fs.length ≤ c) (hn : fs.length ≤ 1073741824) :
    Calls Try.prog 24 #[.slice A fs.length c, .string name] w (GOut w (getV fs name)) := by
  have HC := Lib.hid hC
  clear hC
  have b0 : ((w.alloc (.cells #[.string name] 9)).alloc (.cells #[.int .i64 0, .int .i64 0, .string ⟨#[]⟩] 24)).heap[w.heap.size]? = some (.cells #[.string name] 9 (0, 0)) := (Below.heap_alloc _ _ _ (by simp)).trans (World.alloc_heap_new w _)
  have b1 : ((w.alloc (.cells #[.string name] 9)).alloc (.cells #[.int .i64 0, .int .i64 0, .string ⟨#[]⟩] 24)).heap[w.heap.size + 1]? = some (.cells #[.int .i64 0, .int .i64 0, .string ⟨#[]⟩] 24 (0, 0)) := by have h := World.alloc_heap_new (w.alloc (.cells #[.string name] 9)) (.cells #[.int .i64 0, .int .i64 0, .string ⟨#[]⟩] 24); rwa [World.size_alloc] at h
  have hB0 : Below w.heap.size w ((w.alloc (.cells #[.string name] 9)).alloc (.cells #[.int .i64 0, .int .i64 0, .string ⟨#[]⟩] 24)) := ((Below.refl _ w).alloc (Nat.le_refl _) _).alloc (by simp) _
  have hz : w.heap.size + 2 ≤ ((w.alloc (.cells #[.string name] 9)).alloc (.cells #[.int .i64 0, .int .i64 0, .string ⟨#[]⟩] 24)).heap.size := by simp
  have hcell := cell_of_blk b0 (j := 0) rfl
  have HC2 := Lib.hid (Kd.C_below HC.out hB0)
  go_enter Try.func24, Try.ntmps24
  go_wp2_with fail
  generalize ((w.alloc (.cells #[.string name] 9)).alloc (.cells #[.int .i64 0, .int .i64 0, .string ⟨#[]⟩] 24)) = W2 at *
  have HW : ∀ w3, Below W2.heap.size W2 w3 → w3.heap[w.heap.size + 1]? = some (.cells #[.int .i64 0, .int .i64 0, .string ⟨#[]⟩] 24 (0, 0)) ∧ Below w.heap.size w w3 := fun w3 hb => ⟨(hb.block _ (by omega)).trans b1, hB0.trans (hb.mono (by omega))⟩
  have HHW := Lib.hid HW
  have CI : Calls Try.prog 34 #[.slice A fs.length c, .func (.func 35) #[] #[.pointer (some ⟨w.heap.size, 0, none⟩)]] W2 fun e w' => ((e = .returned (.int .i64 (-1)) ∧ fs.find? (fun f => f.f0.toList == name.toList) = none) ∨ ∃ k, k < fs.length ∧ e = .returned (.int .i64 k) ∧ fs.find? (fun f => f.f0.toList == name.toList) = some fs[k]!) ∧ Below W2.heap.size W2 w' := by
    by_cases h0 : 0 < fs.length
    · obtain ⟨b, off, rfl, hb, hc⟩ := fs_of_C HC2.out h0
      have eg : ∀ args w, (callFunc 35 args).run Try.prog w = .ok (.enter 35 args) w := enters_of Try.func35 (by kernel_rfl) rfl
      have hcon := AnyQ.slices_IndexFunc Try.indexQ 4 Try.isAgg35 Try.sizeOf35 encF (fun _ => rfl) (fun x => x.f0.toList == name.toList) 35 #[.pointer (some ⟨w.heap.size, 0, none⟩)] eg b off fs.length c fs W2
        (pred_name name w.heap.size W2 (by omega) hcell) (Nat.le_refl _) (by omega) hb (fun j hj i v hi => by
          have h1 := hc j hj
          generalize fs[j]! = y at hi h1
          match i, hi with
          | 0, hi => simp [encF] at hi; rw [← hi]; exact h1.1
          | 1, hi => simp [encF] at hi; rw [← hi]; exact h1.2.1
          | 2, hi => simp [encF] at hi; rw [← hi]; exact h1.2.2.1
          | 3, hi => simp [encF] at hi; rw [← hi]; exact h1.2.2.2
          | i + 4, hi => simp [encF] at hi)
      change Calls Try.prog 34 _ _ _ at hcon
      refine hcon.mono ?_
      rintro e w3 ⟨rfl, hb3⟩
      rw [List.take_length]
      rcases idx_find fs (fun f => f.f0.toList == name.toList) with ⟨e1, e2⟩ | ⟨k, hk, e1, e2⟩
      · exact ⟨.inl ⟨by rw [e1], e2⟩, hb3⟩
      · exact ⟨.inr ⟨k, hk, by rw [e1], e2⟩, hb3⟩
    · have e0 : fs = [] := List.eq_nil_of_length_eq_zero (by omega)
      subst e0
      refine (index_none A c _ _).mono ?_
      rintro e w3 ⟨rfl, rfl⟩
      exact ⟨.inl ⟨rfl, rfl⟩, Below.refl _ _⟩
  clear HW b0 b1 hB0 hz hcell HC
  refine CI.mono ?_
  clear CI
  rintro e w3 ⟨he, hb3⟩
  obtain ⟨hbk, hBw⟩ := HHW.out w3 hb3
  have HC3 := Lib.hid (Kd.C_below HC2.out hb3)
  have k0 := cell_of_blk hbk (j := 0) rfl
  have k1 := cell_of_blk hbk (j := 1) rfl
  have k2 := cell_of_blk hbk (j := 2) rfl
  have f0 : w3.frozen? ⟨w.heap.size + 1, 0, none⟩ = false := by simp [World.frozen?, hbk]
  have f1 : w3.frozen? ⟨w.heap.size + 1, 1, none⟩ = false := by simp [World.frozen?, hbk]
  have f2 : w3.frozen? ⟨w.heap.size + 1, 2, none⟩ = false := by simp [World.frozen?, hbk]
  have s0 : w3.shape? (w.heap.size + 1) = some (24, 3) := by simp [World.shape?, hbk]
  have HBW := Lib.hid hBw
  clear hb3 hbk hBw HHW HC2
  rcases he with ⟨rfl, hf⟩ | ⟨k, hk, rfl, hf⟩
  · have hg : getV fs name = none := by unfold getV; rw [hf]; rfl
    have HG := Lib.hid hg
    clear hf hg
    go_wp2_with fail
    refine bodyPost_ret (v := .tuple #[.agg #[.int .i64 0, .int .i64 0, .string ⟨#[]⟩], .bool false]) (by simp [results, Try.results24, go_sem, k0, k1, k2]) rfl ⟨by rw [HG.out]; rfl, ?_⟩
    exact ((HBW.out.setCell (by simp) _).setCell (by simp) _).setCell (by simp) _
  · have hg : getV fs name = some fs[k]!.f1 := by unfold getV; rw [hf]; rfl
    have HG := Lib.hid hg
    clear hg
    obtain ⟨b, off, rfl, -, hc⟩ := fs_of_C HC3.out (by omega)
    obtain ⟨-, m0, m1, m2⟩ := hc k hk
    generalize fs[k]! = y at m0 m1 m2 HG
    obtain ⟨yn, y0, y1, y2⟩ := y
    dsimp only at m0 m1 m2 HG
    have p0 : decide ((k : Int) < 0) = false := decide_eq_false (by omega)
    have p1 := eq_true (show (0 : Int) ≤ (k : Int) by omega)
    have p2 := eq_true (show (k : Int) < (fs.length : Int) by omega)
    have p3 : (k < fs.length) = True := eq_true hk
    clear hf hk hc
    go_wp2_with fail
    refine bodyPost_ret (v := .tuple #[.agg #[.int .i64 y0, .int .i64 y1, .string y2], .bool true]) (by simp [results, Try.results24, go_sem, k0, k1, k2]) rfl ⟨by rw [HG.out]; rfl, ?_⟩
    exact ((HBW.out.setCell (by simp) _).setCell (by simp) _).setCell (by simp) _
end Go.Proofs.Ytcpaejdipohndaa.V
namespace Go.Proofs.Ytcpaejdipohndaa.V
open Go.RowKit Go.Sort Go.Shelf Go.Lib Go.Maps Go.Proofs.YtcpaejdipohndaaW.PrintWords Go.Proofs.Ytcpaejdipohndaa.PAll
set_option linter.unusedVariables false

abbrev Pt := S33
/-! ### keys -/
theorem laidOut : laidOutB Try.prog = true := by kernel_rfl
theorem wideV : (match Try.prog.underlying 24 with | some (.array _ _) | some (.struct _) => true | _ => false) = true := by rw [Try.underlying24]
set_option maxRecDepth 100000 in
theorem lawV : WideMaps.KeyLaw Try.prog 24 := deep_law_laid laidOut (m := 3) (by omega) (of_decide_eq_true (by kernel_rfl)) (by kernel_rfl) wideV
theorem keyedV : Keyed Try.prog 24 := Keyed.of_law lawV
theorem keyedI : Keyed Try.prog 3 := int_keyed Try.underlying3
def aggV (x : Va) : Value := .agg #[.int .i64 x.f0, .int .i64 x.f1, .string x.f2]
def klv (x : Va) : Lit := .string (keyBytes [.int .i64 x.f0, .int .i64 x.f1, .string x.f2.data.toList])
/-- A value whose parts are in their range. -/
structure GoodV (x : Va) : Prop where
  a : (Lit.int .i64 x.f0).wf = true
  b : (Lit.int .i64 x.f1).wf = true
  c : x.f2.size ≤ maxLen
theorem keyV {x : Va} (h : GoodV x) : keyOf Try.prog 24 (aggV x) = some (klv x) := by
  have h1 : Try.prog.keyType 24 = true := by kernel_rfl
  have h2 : Try.prog.cellsOf 24 = 3 := by kernel_rfl
  have h5 : Try.prog.cellsOf 3 = 1 := by kernel_rfl
  have h6 : Try.prog.cellsOf 9 = 1 := by kernel_rfl
  have h3 : (aggV x).formed Try.prog 24 = true := by simp [aggV, Value.formed, Try.underlying24, h2]
  obtain ⟨d, hd⟩ : ∃ d, Try.prog.types.size = d + 1 := ⟨Try.prog.types.size - 1, by kernel_rfl⟩
  unfold keyOf
  rw [Try.underlying24]
  simp only [h1, h3, Bool.and_self, if_true, hd, klv]
  have hc : (aggV x).cells.toList = [.int .i64 x.f0, .int .i64 x.f1, .string x.f2] := rfl
  rw [hc]
  have e0 := h.a
  have e1 := h.b
  have e2 := h.c
  simp [Program.keyLits, Try.underlying24, Try.underlying3, Try.underlying9, h2, h5, h6, e0, e1, e2]
theorem aggV_inj {x y : Va} (h : aggV x = aggV y) : x = y := by
  obtain ⟨a, b, c⟩ := x
  obtain ⟨a', b', c'⟩ := y
  simp only [aggV, Value.agg.injEq] at h
  have h0 := congrArg (fun l : Array Value => l[0]?) h
  have h1 := congrArg (fun l : Array Value => l[1]?) h
  have h2 := congrArg (fun l : Array Value => l[2]?) h
  simp at h0 h1 h2
  subst h0 h1 h2
  rfl
theorem klv_inj {x y : Va} (hx : GoodV x) (hy : GoodV y) (h : klv x = klv y) : x = y := aggV_inj (keyedV.inj (keyV hx) (by rw [h]; exact keyV hy))
theorem keyI {n : Int} (h : (Lit.int .i64 n).wf = true) : keyOf Try.prog 3 (.int .i64 n) = some (.int .i64 n) := keyOf_int_mk Try.underlying3 h

/-! ### 'm[k] = f(m[k])': the element comes out with its stamp, and is laid back -/
open Go.MapKept Go.ChangeMaps in
theorem MapF.entry {P : Program} {k : TypeId} {w : World} {b n : Nat} {f : Lit → Option Value} {t e : TypeId} (h : MapF P k w b n f) (K : WideMaps.KeyLaw P k) (ht : P.underlying t = some (.map k e)) {z : Value} (hz : ∀ u : World, (zeroValue e).run P u = .ok z u) (hn : n < maxLen) {key : Value} {kl : Lit} (hkey : keyOf P k key = some kl) :
    ∃ (st : Nat) (w1 : World), (Instr.mapEntry t (.map (some b)) key).run P w = .ok (.tuple #[(f kl).getD z, goInt st]) w1 ∧ w.grownBy w1 (some b) ∧ w1.heap.size = w.heap.size ∧ (∃ es c, w1.heap[b]? = some (.map es c)) ∧
      ∀ (w2 : World) (val : Value), w2.heap[b]? = w1.heap[b]? → ∃ w3, (Instr.entryStore t (.map (some b)) (goInt st) val).run P w2 = .ok () w3 ∧ MapF P k w3 b (n + 1) (upd f kl val) ∧ w2.grownBy w3 (some b) ∧ w3.heap.size = w2.heap.size := by
  have K' := Keyed.of_law K
  have hl := h.lookup K' ht (hz w) hkey
  have hM := h
  obtain ⟨D, ⟨es, clock, hb, F, hs, hD⟩, hS⟩ := h
  obtain ⟨v0, st, es1, clock1, hrun, hv, hst⟩ := WideElems.entry_then_store K ht hz hb F hkey
  have hv0 : v0 = (f kl).getD z := by
    rcases Maps.fit_look false K' ht (hz w) hb F hkey with ⟨hr, hno, _⟩ | ⟨e0, y, h1, h2, hr, _⟩
    · rw [hr] at hl
      injection hl with hl _
      rcases hv with ⟨e0, he, hk, hv⟩ | ⟨_, hv⟩
      · exact absurd hk (hno e0 he)
      · rw [hv]; exact hl
    · rw [hr] at hl
      injection hl with hl _
      rcases hv with ⟨e1, he, hk, hv⟩ | ⟨hno, hv⟩
      · have hp := ((stamped_iff es clock).1 F.stamped).2.2
        have : e1 = e0 := entry_eq_of_key hp he h1 (hk.trans h2.symm)
        rw [hv, this]; exact hl
      · exact absurd h2 (hno e0 h1)
  subst hv0
  refine ⟨st, _, hrun, ⟨rfl, rfl, rfl, by simp [setBlock], fun i _ hi => heap_setBlock_other hb _ (fun e => hi (by rw [e]))⟩, by simp [setBlock], ⟨_, _, heap_setBlock_same hb _⟩, fun w2 val hw2 => ?_⟩
  rw [heap_setBlock_same hb] at hw2
  obtain ⟨es', clock', hr1, hr2⟩ := hst w2 val hw2
  obtain ⟨w', hu, hM', _⟩ := hM.update K' ht hn hkey (val := val)
  rw [hr2] at hu
  injection hu with _ hu
  subst hu
  refine ⟨_, hr1, hM'.block ?_, ⟨rfl, rfl, rfl, by simp [setBlock], fun i _ hi => heap_setBlock_other hw2 _ (fun e => hi (by rw [e]))⟩, by simp [setBlock]⟩
  rw [heap_setBlock_same hw2, heap_setBlock_same hb]

/-! ### what is to come out -/
/-- The last point of an id. -/
def lastP (l : List Pt) (id : Int) : Option Pt := l.foldl (fun o p => if p.f0 = id then some p else o) none
theorem lastP_snoc (l : List Pt) (p : Pt) (id : Int) : lastP (l ++ [p]) id = if p.f0 = id then some p else lastP l id := by unfold lastP; rw [List.foldl_append]; rfl
theorem snocInd {α : Type} {Q : List α → Prop} (h0 : Q []) (h1 : ∀ l a, Q l → Q (l ++ [a])) : ∀ l, Q l := fun l => by
  have : ∀ (n : Nat) (l : List α), l.length = n → Q l := by
    intro n
    induction n with
    | zero => intro l h; rw [List.eq_nil_of_length_eq_zero h]; exact h0
    | succ n ih =>
      intro l h
      have hne : l ≠ [] := fun e => by rw [e] at h; simp at h
      rw [← List.dropLast_concat_getLast hne]
      exact h1 _ _ (ih _ (by rw [List.length_dropLast, h]; rfl))
  exact this _ l rfl
theorem lastP_mem (l : List Pt) : ∀ (id : Int) (p : Pt), lastP l id = some p → p ∈ l ∧ p.f0 = id := by
  induction l using snocInd with
  | h0 => intro id p h; simp [lastP] at h
  | h1 l q ih =>
    intro id p h
    rw [lastP_snoc] at h
    split at h
    · next e => cases h; exact ⟨by simp, e⟩
    · obtain ⟨h1, h2⟩ := ih id p h
      exact ⟨by simp [h1], h2⟩
theorem lastP_some (l : List Pt) : ∀ (p : Pt), p ∈ l → ∃ q, lastP l p.f0 = some q := by
  induction l using snocInd with
  | h0 => intro p h; simp at h
  | h1 l q ih =>
    intro p h
    rw [lastP_snoc]
    split
    · exact ⟨q, rfl⟩
    · next e =>
      rcases List.mem_append.1 h with h | h
      · exact ih p h
      · rw [List.mem_singleton] at h; exact absurd (by rw [h]) e
/-- The value that a field of the last point of an id has. -/
def valOf (l : List Pt) (name : ByteArray) (id : Int) : Option Va := (lastP l id).bind fun p => getV p.f2 name
def unionL (l : List Int) : List Int := H.someL l [] [1, 2, 3]
theorem mem_unionL {l : List Int} {x : Int} : x ∈ unionL l ↔ x ∈ l := by unfold unionL; rw [H.mem_union]; simp
theorem union_rising (l : List Int) : (unionL l).Pairwise (· < ·) := H.someL_rising _ _ _
theorem unionL_le (l : List Int) : (unionL l).length ≤ l.length := H.someL_le l [] [1, 2, 3]
theorem unionL_ext {a b : List Int} (h : ∀ x, x ∈ a ↔ x ∈ b) : unionL a = unionL b := H.rising_ext (union_rising a) (union_rising b) (fun x => by rw [mem_unionL, mem_unionL, h])
/-- Equality of values, decided. -/
instance : DecidableEq Va := fun a b => decidable_of_iff (a.f0 = b.f0 ∧ a.f1 = b.f1 ∧ a.f2 = b.f2) (by cases a; cases b; simp)
/-- The ids of the points that have the value; of those that have one. -/
def findL (l : List Pt) (name : ByteArray) (v : Va) : List Int := unionL ((l.map (·.f0)).filter fun id => valOf l name id == some v)
def anyL (l : List Pt) (name : ByteArray) : List Int := unionL ((l.map (·.f0)).filter fun id => (valOf l name id).isSome)
end Go.Proofs.Ytcpaejdipohndaa.V
namespace Go.Proofs.Ytcpaejdipohndaa.V
open Go.RowKit Go.Sort Go.Shelf Go.Lib Go.Maps Go.Proofs.YtcpaejdipohndaaW.PrintWords Go.Proofs.Ytcpaejdipohndaa.PAll
set_option linter.unusedVariables false

/-! ### a row of ids -/
def RowI (W : World) (base : Nat) (v : Value) (xs : List Int) : Prop := W.ownsRow base 3 1 v xs.length (nums .i64 xs)
theorem RowI.nil (W : World) (base : Nat) : RowI W base (.slice none 0 0) [] := own_nil W base _ _
theorem RowI.kept {W W' : World} {base : Nat} {v : Value} {xs : List Int} (h : RowI W base v xs) {row : Option Nat} (hg : W.grownBy W' row) (hne : ∀ k, v.ownBlock = some k → some k ≠ row) : RowI W' base v xs := by
  refine own_other h hg ?_
  cases hv : v.ownBlock with
  | none => exact .inl rfl
  | some k => exact .inr (hne k hv)
theorem RowI.below {W W' : World} {base : Nat} {v : Value} {xs : List Int} (h : RowI W base v xs) (hb : Below W.heap.size W W') : RowI W' base v xs := pw_own_below h hb
theorem RowI.lt {W : World} {base : Nat} {v : Value} {xs : List Int} (h : RowI W base v xs) {k : Nat} (hk : v.ownBlock = some k) : k < W.heap.size := own_lt h k hk
theorem RowI.base {W : World} {base : Nat} {v : Value} {xs : List Int} (h : RowI W base v xs) {k : Nat} (hk : v.ownBlock = some k) : base ≤ k := own_base h k hk
theorem RowI.lower {W : World} {base base' : Nat} {v : Value} {xs : List Int} (h : RowI W base v xs) (hb : base' ≤ base) : RowI W base' v xs := own_less h hb
theorem RowI.toR {W : World} {base : Nat} {v : Value} {xs : List Int} (h : RowI W base v xs) : Kd.R (Kd.int .i64) 3 W base (fun _ => True) v xs := Kd.R_of_own h (fun _ _ => trivial)
theorem RowI.ofR {W : World} {base : Nat} {v : Value} {xs : List Int} (h : Kd.R (Kd.int .i64) 3 W base (fun _ => True) v xs) : RowI W base v xs := Kd.own_of_R h
theorem RowI.reads {W : World} {base : Nat} {v : Value} {xs : List Int} (h : RowI W base v xs) : ∃ A c, v = .slice A xs.length c ∧ xs.length ≤ c ∧ Kd.C (Kd.int .i64) W A xs.length xs := Kd.R_reads h.toR
theorem RowI.typed {W : World} {base : Nat} {v : Value} {xs : List Int} (h : RowI W base v xs) {k : Nat} (hk : v.ownBlock = some k) : ∃ cells, W.heap[k]? = some (.cells cells 3 (0, 0)) := Kd.R_typed h.toR k hk
theorem union1_calls {W : World} {base : Nat} {v : Value} {xs : List Int} (h : RowI W base v xs) (hn : xs.length ≤ 1048576) :
    Calls Try.prog 25 #[v, .slice none 0 0] W fun e W' => ∃ u, e = .returned u ∧ RowI W' W.heap.size u (unionL xs) ∧ Below W.heap.size W W' := by
  obtain ⟨A, c, rfl, hc, hC⟩ := h.reads
  have hf : ids_Union.f xs [] = some (unionL xs) := by
    unfold ids_Union.f ids_some.f
    rw [if_pos (by simp; omega)]
    rfl
  refine (ids_Union.calls A c xs none 0 [] _ W hC hc (Kd.C_nil _ _) (Nat.le_refl _) hf).mono ?_
  rintro e W' ⟨u, rfl, hR, hB⟩
  exact ⟨u, rfl, .ofR hR, hB⟩
/-- Another row's block is another kind of block, or none. -/
theorem RowI.far {W W' : World} {base : Nat} {v : Value} {xs : List Int} (h : RowI W base v xs) {g : Nat} {o : Obj} (hg : W.grownBy W' (some g)) (ho : W.heap[g]? = some o) (hne : ∀ cells, o ≠ .cells cells 3 (0, 0)) : RowI W' base v xs :=
  h.kept hg (fun k hk e => by
    obtain ⟨cells, hc⟩ := h.typed hk
    injection e with e
    subst e
    rw [hc] at ho
    injection ho with ho
    exact hne cells ho.symm)

/-! ### rows under keys -/
structure Rows (W : World) (base : Nat) (f : Lit → Option Value) (L : Va → List Int) (av : Value) (LA : List Int) : Prop where
  no : ∀ v, GoodV v → L v = [] → f (klv v) = none
  yes : ∀ v, GoodV v → L v ≠ [] → ∃ u, f (klv v) = some u ∧ RowI W base u (L v)
  back : ∀ kl u, f kl = some u → ∃ v, GoodV v ∧ kl = klv v ∧ L v ≠ []
  far : ∀ kl kl' u u', f kl = some u → f kl' = some u' → kl ≠ kl' → ∀ k, u.ownBlock = some k → u'.ownBlock ≠ some k
  any : RowI W base av LA
  farA : ∀ kl u, f kl = some u → ∀ k, u.ownBlock = some k → av.ownBlock ≠ some k
section
variable {W W' : World} {base : Nat} {f : Lit → Option Value} {L : Va → List Int} {av : Value} {LA : List Int}
theorem Rows.at_ (h : Rows W base f L av LA) {kl : Lit} {u : Value} (hf : f kl = some u) : ∃ v, GoodV v ∧ kl = klv v ∧ L v ≠ [] ∧ RowI W base u (L v) := by
  obtain ⟨v, hv, rfl, hne⟩ := h.back kl u hf
  obtain ⟨u', hu, hr⟩ := h.yes v hv hne
  rw [hf] at hu
  cases hu
  exact ⟨v, hv, rfl, hne, hr⟩
theorem Rows.getD (h : Rows W base f L av LA) {v : Va} (hv : GoodV v) : RowI W base ((f (klv v)).getD (.slice none 0 0)) (L v) := by
  by_cases e : L v = []
  · rw [h.no v hv e, e]; exact RowI.nil W base
  · obtain ⟨u, hu, hr⟩ := h.yes v hv e
    rw [hu]; exact hr
theorem Rows.kept (h : Rows W base f L av LA) {row : Option Nat} (hg : W.grownBy W' row) (hu : ∀ kl u, f kl = some u → ∀ k, u.ownBlock = some k → some k ≠ row) (ha : ∀ k, av.ownBlock = some k → some k ≠ row) : Rows W' base f L av LA :=
  ⟨h.no, fun v hv hn => by obtain ⟨u, h1, h2⟩ := h.yes v hv hn; exact ⟨u, h1, h2.kept hg (hu _ u h1)⟩, h.back, h.far, h.any.kept hg ha, h.farA⟩
theorem Rows.below (h : Rows W base f L av LA) (hb : Below W.heap.size W W') : Rows W' base f L av LA :=
  ⟨h.no, fun v hv hn => by obtain ⟨u, h1, h2⟩ := h.yes v hv hn; exact ⟨u, h1, h2.below hb⟩, h.back, h.far, h.any.below hb, h.farA⟩
theorem Rows.other (h : Rows W base f L av LA) {g : Nat} {o : Obj} (hg : W.grownBy W' (some g)) (ho : W.heap[g]? = some o) (hne : ∀ cells, o ≠ .cells cells 3 (0, 0)) : Rows W' base f L av LA :=
  ⟨h.no, fun v hv hn => by obtain ⟨u, h1, h2⟩ := h.yes v hv hn; exact ⟨u, h1, h2.far hg ho hne⟩, h.back, h.far, h.any.far hg ho hne, h.farA⟩
theorem Rows.congr (h : Rows W base f L av LA) {L' : Va → List Int} (e : ∀ v, GoodV v → L v = L' v) : Rows W base f L' av LA :=
  ⟨fun v hv hn => h.no v hv ((e v hv).trans hn), fun v hv hn => by rw [← e v hv] at hn ⊢; exact h.yes v hv hn, fun kl u hf => by obtain ⟨v, hv, e1, hn⟩ := h.back kl u hf; exact ⟨v, hv, e1, by rw [← e v hv]; exact hn⟩, h.far, h.any, h.farA⟩
open Classical in
noncomputable def updL (L : Va → List Int) (v : Va) (xs : List Int) : Va → List Int := fun x => if x = v then xs else L x
theorem updL_same (L : Va → List Int) (v : Va) (xs : List Int) : updL L v xs v = xs := by unfold updL; rw [if_pos rfl]
theorem updL_other (L : Va → List Int) {v x : Va} (xs : List Int) (h : x ≠ v) : updL L v xs x = L x := by unfold updL; rw [if_neg h]
theorem upd_same (f : Lit → Option Value) (kl : Lit) (v : Value) : upd f kl v kl = some v := by unfold upd; rw [if_pos rfl]
theorem upd_other (f : Lit → Option Value) {kl x : Lit} (v : Value) (h : x ≠ kl) : upd f kl v x = f x := by unfold upd; rw [if_neg h]
/-- A key's row is another now: the old row, grown, or a new one. -/
theorem Rows.put (h : Rows W base f L av LA) {v : Va} (hv : GoodV v) {u' : Value} {xs' : List Int} (hx : xs' ≠ []) (hu : RowI W' base u' xs') {row : Option Nat} (hg : W.grownBy W' row)
    (hrow : row = none ∨ row = ((f (klv v)).getD (.slice none 0 0)).ownBlock) (hat : ∀ k, u'.ownBlock = some k → some k = row ∨ W.heap.size ≤ k) : Rows W' base (upd f (klv v) u') (updL L v xs') av LA := by
  -- what lies elsewhere is not the old row
  have hsep : ∀ kl u, f kl = some u → kl ≠ klv v → ∀ k, u.ownBlock = some k → some k ≠ row := by
    intro kl u hf hne k hk e
    rcases hrow with r | r
    · rw [r] at e; cases e
    · rw [r] at e
      cases hv' : f (klv v) with
      | none => rw [hv'] at e; simp [Value.ownBlock] at e
      | some u0 => rw [hv'] at e; exact h.far kl (klv v) u u0 hf hv' hne k hk e.symm
  have hsepA : ∀ k, av.ownBlock = some k → some k ≠ row := by
    intro k hk e
    rcases hrow with r | r
    · rw [r] at e; cases e
    · rw [r] at e
      cases hv' : f (klv v) with
      | none => rw [hv'] at e; simp [Value.ownBlock] at e
      | some u0 => rw [hv'] at e; exact h.farA (klv v) u0 hv' k e.symm hk
  have hlt : ∀ kl u, f kl = some u → ∀ k, u.ownBlock = some k → k < W.heap.size := fun kl u hf k hk => by
    obtain ⟨_, _, _, _, hr⟩ := h.at_ hf
    exact hr.lt hk
  refine ⟨fun x hx' hn => ?_, fun x hx' hn => ?_, fun kl u hf => ?_, fun kl kl' u u1 hf hf' hne k hk hk' => ?_, h.any.kept hg hsepA, fun kl u hf k hk hk' => ?_⟩
  · by_cases e : x = v
    · subst e; rw [updL_same] at hn; exact absurd hn hx
    · rw [updL_other _ _ e] at hn
      rw [upd_other _ _ (fun e' => e (klv_inj hx' hv e'))]
      exact h.no x hx' hn
  · by_cases e : x = v
    · subst e; rw [updL_same, upd_same]; exact ⟨u', rfl, hu⟩
    · rw [updL_other _ _ e] at hn ⊢
      have hk : klv x ≠ klv v := fun e' => e (klv_inj hx' hv e')
      rw [upd_other _ _ hk]
      obtain ⟨u, h1, h2⟩ := h.yes x hx' hn
      exact ⟨u, h1, h2.kept hg (hsep _ u h1 hk)⟩
  · by_cases e : kl = klv v
    · exact ⟨v, hv, e, by rw [updL_same]; exact hx⟩
    · rw [upd_other _ _ e] at hf
      obtain ⟨x, h1, h2, h3⟩ := h.back kl u hf
      have : x ≠ v := fun e' => e (by rw [h2, e'])
      exact ⟨x, h1, h2, by rw [updL_other _ _ this]; exact h3⟩
  · by_cases e : kl = klv v
    · have e1 : kl' ≠ klv v := fun e' => hne (by rw [e, e'])
      rw [e, upd_same] at hf
      rw [upd_other _ _ e1] at hf'
      cases hf
      rcases hat k hk with h1 | h1
      · exact hsep _ _ hf' e1 k hk' h1
      · have := hlt _ _ hf' k hk'; omega
    · rw [upd_other _ _ e] at hf
      by_cases e1 : kl' = klv v
      · rw [e1, upd_same] at hf'
        cases hf'
        rcases hat k hk' with h1 | h1
        · exact hsep _ _ hf e k hk h1
        · have := hlt _ _ hf k hk; omega
      · rw [upd_other _ _ e1] at hf'
        exact h.far kl kl' u u1 hf hf' hne k hk hk'
  · by_cases e : kl = klv v
    · rw [e, upd_same] at hf
      cases hf
      rcases hat k hk with h1 | h1
      · exact hsepA k hk' h1
      · have := h.any.lt hk'; omega
    · rw [upd_other _ _ e] at hf
      exact h.farA kl u hf k hk hk'
/-- The row of all is another now. -/
theorem Rows.putA (h : Rows W base f L av LA) {av' : Value} {LA' : List Int} (hu : RowI W' base av' LA') {row : Option Nat} (hg : W.grownBy W' row) (hrow : row = none ∨ row = av.ownBlock)
    (hat : ∀ k, av'.ownBlock = some k → some k = row ∨ W.heap.size ≤ k) : Rows W' base f L av' LA' := by
  have hsep : ∀ kl u, f kl = some u → ∀ k, u.ownBlock = some k → some k ≠ row := by
    intro kl u hf k hk e
    rcases hrow with r | r
    · rw [r] at e; cases e
    · rw [r] at e; exact h.farA kl u hf k hk e.symm
  refine ⟨h.no, fun v hv hn => by obtain ⟨u, h1, h2⟩ := h.yes v hv hn; exact ⟨u, h1, h2.kept hg (hsep _ u h1)⟩, h.back, h.far, hu, fun kl u hf k hk hk' => ?_⟩
  rcases hat k hk' with h1 | h1
  · exact hsep _ _ hf k hk h1
  · obtain ⟨_, _, _, _, hr⟩ := h.at_ hf
    have := hr.lt hk
    omega
end
theorem Rows.start (W : World) (base : Nat) : Rows W base (fun _ => none) (fun _ => []) (.slice none 0 0) [] :=
  ⟨fun _ _ _ => rfl, fun _ _ h => absurd rfl h, (fun _ _ h => by cases h), (fun _ _ _ _ h => by cases h), RowI.nil W base, (fun _ _ h => by cases h)⟩

/-! ### the last point of each id -/
/-- A point as it lies in a map. -/
def PtV (w : World) (u : Value) (p : Pt) : Prop := ∃ A1 n1 c1 A2 c2, u = .agg #[.int .i64 p.f0, .slice A1 n1 c1, .slice A2 p.f2.length c2] ∧ p.f2.length ≤ c2 ∧ Kd.C k35 w A2 p.f2.length p.f2
structure Last (w : World) (l : List Pt) (f : Lit → Option Value) : Prop where
  has : ∀ id p, lastP l id = some p → (f (.int .i64 id)).isSome = true
  back : ∀ kl u, f kl = some u → ∃ id p, (Lit.int .i64 id).wf = true ∧ kl = .int .i64 id ∧ lastP l id = some p ∧ PtV w u p
theorem Last.start (w : World) : Last w [] (fun _ => none) := ⟨fun _ _ h => by simp [lastP] at h, fun _ _ h => by cases h⟩
theorem Last.snoc {w : World} {l : List Pt} {f : Lit → Option Value} (h : Last w l f) {p : Pt} (hw : (Lit.int .i64 p.f0).wf = true) {u : Value} (hu : PtV w u p) : Last w (l ++ [p]) (upd f (.int .i64 p.f0) u) := by
  refine ⟨fun id q hq => ?_, fun kl x hx => ?_⟩
  · by_cases e : id = p.f0
    · subst e; rw [upd_same]; rfl
    · rw [upd_other _ _ (fun e' => e (by injection e'))]
      rw [lastP_snoc, if_neg (fun e' => e e'.symm)] at hq
      exact h.has id q hq
  · by_cases e : kl = .int .i64 p.f0
    · subst e
      rw [upd_same] at hx
      cases hx
      exact ⟨p.f0, p, hw, rfl, by rw [lastP_snoc, if_pos rfl], hu⟩
    · rw [upd_other _ _ e] at hx
      obtain ⟨id, q, h1, h2, h3, h4⟩ := h.back kl x hx
      exact ⟨id, q, h1, h2, by rw [lastP_snoc, if_neg (fun e' => e (by rw [h2, e'])), h3], h4⟩

/-! ### what has been gathered -/
structure Fill (l : List Pt) (name : ByteArray) (left : Lit → Bool) (L : Va → List Int) (LA : List Int) : Prop where
  mem : ∀ v id, id ∈ L v ↔ (valOf l name id = some v ∧ left (.int .i64 id) = false)
  memA : ∀ id, id ∈ LA ↔ ((valOf l name id).isSome = true ∧ left (.int .i64 id) = false)
  nd : ∀ v, (L v).Nodup
  ndA : LA.Nodup
theorem valOf_last {l : List Pt} {name : ByteArray} {id : Int} {v : Va} (h : valOf l name id = some v) : ∃ p, lastP l id = some p ∧ getV p.f2 name = some v := by
  unfold valOf at h
  exact Option.bind_eq_some_iff.1 h
theorem Fill.start {w : World} {l : List Pt} {f : Lit → Option Value} (hl : Last w l f) (name : ByteArray) {left : Lit → Bool} (he : ∀ kl, left kl = (f kl).isSome) : Fill l name left (fun _ => []) [] := by
  refine ⟨fun v id => ⟨fun h => by simp at h, fun ⟨h1, h2⟩ => ?_⟩, fun id => ⟨fun h => by simp at h, fun ⟨h1, h2⟩ => ?_⟩, fun _ => List.nodup_nil, List.nodup_nil⟩
  · obtain ⟨p, hp, _⟩ := valOf_last h1
    rw [he, hl.has id p hp] at h2; cases h2
  · obtain ⟨v, hv⟩ := Option.isSome_iff_exists.1 h1
    obtain ⟨p, hp, _⟩ := valOf_last hv
    rw [he, hl.has id p hp] at h2; cases h2
theorem sameKey_i (x y : Int) : (Lit.int .i64 x).sameKey (.int .i64 y) = decide (x = y) := by
  by_cases e : x = y
  · subst e; simp [Lit.sameKey]
  · rw [decide_eq_false e]
    cases h : (Lit.int .i64 x).sameKey (.int .i64 y) with
    | false => rfl
    | true => have := WideAt.sameKey_eq h; injection this with _ h1; exact absurd h1 e
theorem Fill.miss {l : List Pt} {name : ByteArray} {left : Lit → Bool} {L : Va → List Int} {LA : List Int} (h : Fill l name left L LA) {id : Int} (hv : valOf l name id = none) : Fill l name (fun x => left x && !x.sameKey (.int .i64 id)) L LA := by
  refine ⟨fun v x => ?_, fun x => ?_, h.nd, h.ndA⟩
  · rw [h.mem, sameKey_i]
    by_cases e : x = id
    · subst e; rw [hv]; simp
    · simp [e]
  · rw [h.memA, sameKey_i]
    by_cases e : x = id
    · subst e; rw [hv]; simp
    · simp [e]
theorem Fill.hit {l : List Pt} {name : ByteArray} {left : Lit → Bool} {L : Va → List Int} {LA : List Int} (h : Fill l name left L LA) {id : Int} {v : Va} (hv : valOf l name id = some v) (hl : left (.int .i64 id) = true) :
    Fill l name (fun x => left x && !x.sameKey (.int .i64 id)) (updL L v (L v ++ [id])) (LA ++ [id]) := by
  have hn : id ∉ L v := fun hm => by have := ((h.mem v id).1 hm).2; rw [hl] at this; cases this
  have hnA : id ∉ LA := fun hm => by have := ((h.memA id).1 hm).2; rw [hl] at this; cases this
  refine ⟨fun x i => ?_, fun i => ?_, fun x => ?_, ?_⟩
  · rw [sameKey_i]
    by_cases ex : x = v
    · subst ex
      rw [updL_same, List.mem_append, h.mem, List.mem_singleton]
      by_cases e : i = id
      · subst e; simp [hv]
      · simp [e]
    · rw [updL_other _ _ ex, h.mem]
      by_cases e : i = id
      · subst e
        rw [hv]
        simp [hl, Ne.symm ex]
      · simp [e]
  · rw [sameKey_i, List.mem_append, h.memA, List.mem_singleton]
    by_cases e : i = id
    · subst e; simp [hv]
    · simp [e]
  · by_cases ex : x = v
    · subst ex
      rw [updL_same, List.nodup_append]
      exact ⟨h.nd x, by simp, fun a ha b hb => by rw [List.mem_singleton] at hb; subst hb; intro e; subst e; exact hn ha⟩
    · rw [updL_other _ _ ex]; exact h.nd x
  · rw [List.nodup_append]
    exact ⟨h.ndA, by simp, fun a ha b hb => by rw [List.mem_singleton] at hb; subst hb; intro e; subst e; exact hnA ha⟩
theorem nodup_le : ∀ (l hs : List Int), l.Nodup → (∀ x ∈ l, x ∈ hs) → l.length ≤ hs.length := by
  intro l
  induction l with
  | nil => intro hs _ _; simp
  | cons a r ih =>
    intro hs hn hm
    rw [List.nodup_cons] at hn
    have ha := hm a (by simp)
    have := ih (hs.erase a) hn.2 (fun x hx => (List.mem_erase_of_ne (fun e => hn.1 (by rw [← e]; exact hx))).2 (hm x (by simp [hx])))
    rw [List.length_erase_of_mem ha] at this
    have : 0 < hs.length := List.length_pos_of_mem ha
    simp
    omega
theorem valOf_mem {l : List Pt} {name : ByteArray} {id : Int} {v : Va} (h : valOf l name id = some v) : id ∈ l.map (·.f0) := by
  obtain ⟨p, hp, _⟩ := valOf_last h
  obtain ⟨h1, h2⟩ := lastP_mem l id p hp
  exact List.mem_map.2 ⟨p, h1, h2⟩
theorem Fill.len {l : List Pt} {name : ByteArray} {left : Lit → Bool} {L : Va → List Int} {LA : List Int} (h : Fill l name left L LA) (v : Va) : (L v).length ≤ l.length := by
  have := nodup_le (L v) (l.map (·.f0)) (h.nd v) (fun x hx => valOf_mem ((h.mem v x).1 hx).1)
  simpa using this
theorem Fill.lenA {l : List Pt} {name : ByteArray} {left : Lit → Bool} {L : Va → List Int} {LA : List Int} (h : Fill l name left L LA) : LA.length ≤ l.length := by
  have := nodup_le LA (l.map (·.f0)) h.ndA (fun x hx => by obtain ⟨v, hv⟩ := Option.isSome_iff_exists.1 ((h.memA x).1 hx).1; exact valOf_mem hv)
  simpa using this
theorem Fill.done {l : List Pt} {name : ByteArray} {left : Lit → Bool} {L : Va → List Int} {LA : List Int} (h : Fill l name left L LA) (h0 : ∀ kl, left kl = false) : (∀ v, unionL (L v) = findL l name v) ∧ unionL LA = anyL l name := by
  refine ⟨fun v => unionL_ext fun x => ?_, unionL_ext fun x => ?_⟩
  · rw [h.mem, List.mem_filter]
    constructor
    · rintro ⟨h1, _⟩; exact ⟨valOf_mem h1, by simp [h1]⟩
    · rintro ⟨_, h1⟩; exact ⟨by simpa using h1, h0 _⟩
  · rw [h.memA, List.mem_filter]
    constructor
    · rintro ⟨h1, _⟩; obtain ⟨v, hv⟩ := Option.isSome_iff_exists.1 h1; exact ⟨valOf_mem hv, h1⟩
    · rintro ⟨_, h1⟩; exact ⟨h1, h0 _⟩
theorem unionL_nil_iff (l : List Int) : unionL l = [] ↔ l = [] := by
  constructor
  · intro h
    cases l with
    | nil => rfl
    | cons a r => have : a ∈ unionL (a :: r) := mem_unionL.2 (by simp); rw [h] at this; simp at this
  · rintro rfl
    cases h : unionL ([] : List Int) with
    | nil => rfl
    | cons a r => have : a ∈ unionL ([] : List Int) := by rw [h]; simp
                  rw [mem_unionL] at this; simp at this

/-! ### the third loop: each row taken once -/
def L3 (left : Lit → Bool) (L : Va → List Int) (v : Va) : List Int := if left (klv v) = true then L v else unionL (L v)
theorem L3_start {W : World} {base : Nat} {f : Lit → Option Value} {L : Va → List Int} {av : Value} {LA : List Int} (h : Rows W base f L av LA) {left : Lit → Bool} (he : ∀ kl, left kl = (f kl).isSome) : Rows W base f (L3 left L) av LA := by
  refine h.congr fun v hv => ?_
  unfold L3
  rw [he]
  by_cases e : L v = []
  · rw [h.no v hv e, if_neg (by simp), e]; exact ((unionL_nil_iff []).2 rfl).symm
  · obtain ⟨u, hu, _⟩ := h.yes v hv e
    rw [hu]; simp
theorem L3_step {left : Lit → Bool} {L : Va → List Int} {v : Va} (hv : GoodV v) {x : Va} (hx : GoodV x) : updL (L3 left L) v (unionL (L v)) x = L3 (fun y => left y && !y.sameKey (klv v)) L x := by
  by_cases e : x = v
  · subst e
    rw [updL_same]
    unfold L3
    simp [WideAt.sameKey_self (keyedV.key (keyV hv))]
  · rw [updL_other _ _ e]
    unfold L3
    have : (klv x).sameKey (klv v) = false := by
      cases h : (klv x).sameKey (klv v) with
      | false => rfl
      | true => exact absurd (klv_inj hx hv (WideAt.sameKey_eq h)) e
    simp [this]

/-! ### the index -/
def WIdx (l : List Pt) (name : ByteArray) (base : Nat) (W : World) (x : Value) : Prop := ∃ bx bp m av f, x = .pointer (some ⟨bx, 0, none⟩) ∧ W.heap[bx]? = some (.cells #[.map (some bp), av] 58 (0, 0)) ∧ base ≤ bx ∧ base ≤ bp ∧ m ≤ l.length ∧
  MapF Try.prog 24 W bp m f ∧ Rows W base f (findL l name) av (anyL l name)
theorem WIdx.below {l : List Pt} {name : ByteArray} {base : Nat} {W W' : World} {x : Value} (h : WIdx l name base W x) (hb : Below W.heap.size W W') : WIdx l name base W' x := by
  obtain ⟨bx, bp, m, av, f, rfl, h1, h2, h3, h4, h5, h6⟩ := h
  exact ⟨bx, bp, m, av, f, rfl, (hb.block _ (Array.getElem?_eq_some_iff.1 h1).1).trans h1, h2, h3, h4, h5.below hb, h6.below hb⟩
end Go.Proofs.Ytcpaejdipohndaa.V
namespace Go.Proofs.Ytcpaejdipohndaa.V
open Go.RowKit Go.Sort Go.Shelf Go.Lib Go.Maps Go.Proofs.YtcpaejdipohndaaW.PrintWords Go.Proofs.Ytcpaejdipohndaa.PAll
set_option linter.unusedVariables false
section
variable {P : Program} (w : World) {ops : Array Oper} {rest : List Oper} {o : Oper} {a : Act} {Q : Exit → Act → World → Prop}
theorem wpList_update_f (hg : o.guard = none) (m x v : Operand) (t : TypeId) (hop : o.op = Op.mapUpdate t m x v) (k e : TypeId) (K : Keyed P k) (ht : P.underlying t = some (.map k e)) (b n : Nat) (f : Lit → Option Value)
    (hm : a.eval m = .map (some b)) (h : MapF P k w b n f) (hn : n < maxLen) (key val : Value) (kl : Lit) (hx : a.eval x = key) (hv : a.eval v = val) (hkey : keyOf P k key = some kl)
    (hK : ∀ w', MapF P k w' b (n + 1) (upd f kl val) → w.grownBy w' (some b) → wpList P ops Q rest (a.put o.dst undef) w') : wpList P ops Q (o :: rest) a w := by
  refine wpList_plain hg fun K' hK' => ?_
  obtain ⟨w', hrun, r1, r2⟩ := h.update K ht hn hkey (val := val)
  unfold Oper.wp
  simp [execOp, hop, hm, hx, hv, hrun, Result.andThen]
  exact hK' _ _ (hK w' r1 r2)
theorem wpList_store_f (hg : o.guard = none) (m x v : Operand) (t : TypeId) (hop : o.op = Op.mapUpdate t m x v) (k e : TypeId) (K : Keyed P k) (ht : P.underlying t = some (.map k e)) (b r n : Nat) (f : Lit → Option Value) (left : Lit → Bool) (cnt : Nat)
    (hm : a.eval m = .map (some b)) (h : GoF P k w b r n f left cnt) (hn : n < maxLen) (key val u : Value) (kl : Lit) (hx : a.eval x = key) (hv : a.eval v = val) (hkey : keyOf P k key = some kl) (hf : f kl = some u)
    (hK : ∀ w', GoF P k w' b r n (upd f kl val) left cnt → w.grownBy w' (some b) → wpList P ops Q rest (a.put o.dst undef) w') : wpList P ops Q (o :: rest) a w := by
  refine wpList_plain hg fun K' hK' => ?_
  obtain ⟨w', hrun, r1, r2⟩ := h.store K ht hn hkey (val := val) hf
  unfold Oper.wp
  simp [execOp, hop, hm, hx, hv, hrun, Result.andThen]
  exact hK' _ _ (hK w' r1 r2)
theorem wpList_range_f (hg : o.guard = none) (m : Operand) (t : TypeId) (hop : o.op = Op.range t m) (k e : TypeId) (K : Keyed P k) (ht : P.underlying t = some (.map k e)) (b n : Nat) (f : Lit → Option Value)
    (hm : a.eval m = .map (some b)) (h : MapF P k w b n f)
    (hK : ∀ w' left cnt, GoF P k w' b w.heap.size n f left cnt → (∀ kl, left kl = (f kl).isSome) → w.grownBy w' none → w'.heap.size = w.heap.size + 1 → wpList P ops Q rest (a.put o.dst (.pointer (some ⟨w.heap.size, 0, none⟩))) w') : wpList P ops Q (o :: rest) a w := by
  refine wpList_plain hg fun K' hK' => ?_
  obtain ⟨w', left, cnt, hrun, r1, r2, r3, r4⟩ := h.range K ht
  unfold Oper.wp
  simp [execOp, hop, hm, hrun, Result.andThen]
  exact hK' _ _ (hK w' left cnt r1 r2 r3 r4)
theorem wpList_next_f (hg : o.guard = none) (it : Operand) (hop : o.op = Op.next it false) (k : TypeId) (K : Keyed P k) (b r n : Nat) (f : Lit → Option Value) (left : Lit → Bool) (cnt : Nat)
    (hit : a.eval it = .pointer (some ⟨r, 0, none⟩)) (h : GoF P k w b r n f left cnt)
    (hDone : cnt = 0 → (∀ kl, left kl = false) → wpList P ops Q rest (a.put o.dst (.tuple #[.bool false])) w)
    (hMore : ∀ (key v : Value) (kl : Lit) (w' : World) (cnt' : Nat), keyOf P k key = some kl → left kl = true → f kl = some v → GoF P k w' b r n f (fun x => left x && !x.sameKey kl) cnt' → cnt' < cnt → w.grownBy w' (some r) → w'.heap.size = w.heap.size →
      (Instr.entry (.pointer (some ⟨r, 0, none⟩))).run P w' = .ok (.tuple #[key, v]) w' → wpList P ops Q rest (a.put o.dst (.tuple #[.bool true, key, v])) w') : wpList P ops Q (o :: rest) a w := by
  refine wpList_plain hg fun K' hK' => ?_
  unfold Oper.wp
  rcases h.next K o.type with ⟨h0, hl, hrun⟩ | ⟨key, v, kl, w', cnt', hkey, hlk, hv, hrun, hrg, hlt, hgr, hsz, hen⟩
  · simp [execOp, hop, hit, hrun, Result.andThen]
    exact hK' _ _ (hDone h0 hl)
  · simp [execOp, hop, hit, hrun, Result.andThen]
    exact hK' _ _ (hMore key v kl w' cnt' hkey hlk hv hrg hlt hgr hsz hen)
end
section
variable {P : Program} {k : TypeId} {w w' : World} {b r n : Nat} {f : Lit → Option Value} {left : Lit → Bool} {cnt : Nat}
theorem MapF.obj (h : MapF P k w b n f) : ∃ es clock, w.heap[b]? = some (.map es clock) := by
  obtain ⟨D, ⟨es, clock, h1, h2, h3, h4⟩, h5⟩ := h
  exact ⟨es, clock, h1⟩
theorem GoF.obj (h : GoF P k w b r n f left cnt) : ∃ o, w.heap[r]? = some o ∧ (∀ c t z, o ≠ .cells c t z) ∧ ∀ es c, o ≠ .map es c := by
  obtain ⟨D, ⟨es, clock, since, seen, c0, hb, F, hs, e, hr, _⟩, h5⟩ := h
  exact ⟨_, hr, by simp, by simp⟩
end
theorem obj_ne {w : World} {b g : Nat} {o o' : Obj} (h : w.heap[b]? = some o) (h' : w.heap[g]? = some o') (hne : o ≠ o') : some b ≠ some g := fun e => by
  injection e with e
  subst e
  rw [h] at h'
  injection h' with h'
  exact hne h'
/-- The state within the second loop. -/
structure Mid2 (w : World) (lb r n bx bp m : Nat) (fl f : Lit → Option Value) (left : Lit → Bool) (cnt : Nat) (L : Va → List Int) (LA : List Int) (av : Value) (W : World) : Prop where
  G : GoF Try.prog 3 W lb r n fl left cnt
  M : MapF Try.prog 24 W bp m f
  R : Rows W w.heap.size f L av LA
  X : W.heap[bx]? = some (.cells #[.map (some bp), av] 58 (0, 0))
  B : Below w.heap.size w W
  ne : bp ≠ lb
  lx : w.heap.size ≤ bx
  lp : w.heap.size ≤ bp
  ll : w.heap.size ≤ lb
  lr : w.heap.size ≤ r
section
variable {w W W' : World} {lb r n bx bp m : Nat} {fl f : Lit → Option Value} {left : Lit → Bool} {cnt : Nat} {L : Va → List Int} {LA : List Int} {av : Value}
theorem Mid2.below (h : Mid2 w lb r n bx bp m fl f left cnt L LA av W) (hb : Below W.heap.size W W') : Mid2 w lb r n bx bp m fl f left cnt L LA av W' :=
  ⟨h.G.below hb, h.M.below hb, h.R.below hb, (hb.block _ (Array.getElem?_eq_some_iff.1 h.X).1).trans h.X, h.B.trans (hb.mono h.B.size), h.ne, h.lx, h.lp, h.ll, h.lr⟩
theorem below_grown {w W W' : World} (h : Below w.heap.size w W) {row : Option Nat} (hg : W.grownBy W' row) (hr : ∀ k, row = some k → w.heap.size ≤ k) : Below w.heap.size w W' :=
  h.trans ⟨hg.os, hg.tape, hg.output, hg.size, fun k hk => hg.block k (Nat.lt_of_lt_of_le hk h.size) (fun e => by have := hr k e.symm; omega)⟩
theorem Mid2.iter (h : Mid2 w lb r n bx bp m fl f left cnt L LA av W) (hg : W.grownBy W' (some r)) {left' : Lit → Bool} {cnt' : Nat} (hG : GoF Try.prog 3 W' lb r n fl left' cnt') : Mid2 w lb r n bx bp m fl f left' cnt' L LA av W' := by
  obtain ⟨o, ho, h1, h2⟩ := h.G.obj
  obtain ⟨es, c, hm⟩ := h.M.obj
  exact ⟨hG, h.M.kept hg (obj_ne hm ho (fun e => h2 _ _ e.symm)), h.R.other hg ho (fun c => h1 _ _ _), (hg.block _ (Array.getElem?_eq_some_iff.1 h.X).1 (obj_ne h.X ho (fun e => h1 _ _ _ e.symm))).trans h.X, below_grown h.B hg (fun k e => by cases e; exact h.lr), h.ne, h.lx, h.lp, h.ll, h.lr⟩
/-- What is written is a box of another kind than ids, and not the index. -/
theorem Mid2.box (h : Mid2 w lb r n bx bp m fl f left cnt L LA av W) {g : Nat} {cs : Array Value} {t : TypeId} (hg : W.grownBy W' (some g)) (ho : W.heap[g]? = some (.cells cs t (0, 0))) (ht : t ≠ 3) (hx : g ≠ bx) (hl : w.heap.size ≤ g) : Mid2 w lb r n bx bp m fl f left cnt L LA av W' := by
  obtain ⟨o, ho', h1, h2⟩ := h.G.obj
  obtain ⟨es, c, hm⟩ := h.M.obj
  obtain ⟨es', c', hm'⟩ := h.G.owns.obj
  exact ⟨h.G.kept hg (obj_ne hm' ho (by simp)) (obj_ne ho' ho (h1 _ _ _)), h.M.kept hg (obj_ne hm ho (by simp)), h.R.other hg ho (fun c e => by injection e with _ e; exact ht e), (hg.block _ (Array.getElem?_eq_some_iff.1 h.X).1 (fun e => by injection e with e; exact hx e.symm)).trans h.X, below_grown h.B hg (fun k e => by cases e; exact hl), h.ne, h.lx, h.lp, h.ll, h.lr⟩
end
end Go.Proofs.Ytcpaejdipohndaa.V
namespace Go.Proofs.Ytcpaejdipohndaa.V
open Go.RowKit Go.Sort Go.Shelf Go.Lib Go.Maps Go.Proofs.YtcpaejdipohndaaW.PrintWords Go.Proofs.Ytcpaejdipohndaa.PAll
set_option linter.unusedVariables false
theorem infoI : (Try.prog.info? 3).map (fun i => (i.zero, i.size, i.bytes)) = some (some (.int .i64 0), 1, 8) := by kernel_rfl
section
variable {ops : Array Oper} {o : Oper} {a : Act} {rest : List Oper} {Q : Exit → Act → World → Prop}
theorem own_end {W W' : World} {r : Value} {g cap n H : Nat} (hH : W.heap.size = H) (hat : r.ownBlock = some g ∨ g = H) : ∀ k, (Value.slice (some ⟨g, 0, none⟩) n cap).ownBlock = some k → some k = r.ownBlock ∨ W.heap.size ≤ k := by
  intro k hk
  have : g = k := by simpa [Value.ownBlock] using hk
  subst this
  rcases hat with h | h
  · exact .inl h.symm
  · exact .inr (by omega)
theorem step_append_i {W : World} {Kc : Act → World → Prop} {E : Prop} {base g : Nat} {r : Value} {xs : List Int} {x : Int} (hgd : o.guard = none) (s y : Operand)
    (ho : o.op = .call { callee := .builtin .append, args := #[s, y], argTypes := #[37, 37] }) (hs : a.eval s = r) (hy : a.eval y = .slice (some ⟨g, 0, none⟩) 1 1)
    (hb : W.heap[g]? = some (.cells #[.int .i64 x] 3 (0, 0))) (hr : RowI W base r xs) (hbase : base ≤ W.heap.size) (hl : xs.length ≤ 1048576)
    (h : ∀ r' W', RowI W' base r' (xs ++ [x]) → W.grownBy W' r.ownBlock → (∀ k, r'.ownBlock = some k → some k = r.ownBlock ∨ W.heap.size ≤ k) → Kc (a.put o.dst r') W') :
    if Region.wanted o (yielded ops a.tmps) = true then Oper.wp Try.prog o a W Kc Q else E := by
  obtain ⟨i0, hi, hz0, hz1, hz2⟩ := info_parts infoI
  refine step_append_lies W hgd s y 37 ho base 3 i0 (.int .i64 0) 1 8 Try.underlying37 hi hz0 hz1 hz2 rfl (by decide) r xs.length _ hs hr ⟨g, 0, none⟩ 1 1 [.int .i64 x] hy rfl (World.news_of_block hb) (by simp [Value.oneCell']) (by decide) (by unfold maxLen; omega) (by omega) hbase _ rfl ?_
  intro g' cap W' hown hg hat _
  exact h _ W' (by unfold RowI; rw [List.length_append, nums_append]; exact hown) hg (own_end (W := W) (W' := W') rfl hat)
theorem wpList_append_i {W : World} {base g : Nat} {r : Value} {xs : List Int} {x : Int} (hgd : o.guard = none) (s y : Operand)
    (ho : o.op = .call { callee := .builtin .append, args := #[s, y], argTypes := #[37, 37] }) (hs : a.eval s = r) (hy : a.eval y = .slice (some ⟨g, 0, none⟩) 1 1)
    (hb : W.heap[g]? = some (.cells #[.int .i64 x] 3 (0, 0))) (hr : RowI W base r xs) (hbase : base ≤ W.heap.size) (hl : xs.length ≤ 1048576)
    (h : ∀ r' W', RowI W' base r' (xs ++ [x]) → W.grownBy W' r.ownBlock → (∀ k, r'.ownBlock = some k → some k = r.ownBlock ∨ W.heap.size ≤ k) → wpList Try.prog ops Q rest (a.put o.dst r') W') :
    wpList Try.prog ops Q (o :: rest) a W := by
  obtain ⟨i0, hi, hz0, hz1, hz2⟩ := info_parts infoI
  refine wpList_append_lies W hgd s y 37 ho base 3 i0 (.int .i64 0) 1 8 Try.underlying37 hi hz0 hz1 hz2 rfl (by decide) r xs.length _ hs hr ⟨g, 0, none⟩ 1 1 [.int .i64 x] hy rfl (World.news_of_block hb) (by simp [Value.oneCell']) (by decide) (by unfold maxLen; omega) (by omega) hbase _ rfl ?_
  intro g' cap W' hown hg hat _
  exact h _ W' (by unfold RowI; rw [List.length_append, nums_append]; exact hown) hg (own_end (W := W) (W' := W') rfl hat)
end
section
variable {w W W1 W' w3 : World} {lb r n bx bp m : Nat} {fl f : Lit → Option Value} {left : Lit → Bool} {cnt : Nat} {L : Va → List Int} {LA : List Int} {av : Value}
/-- A row's block is no map, no iterator, no other box. -/
theorem RowI.apart {W : World} {base : Nat} {v : Value} {xs : List Int} (h : RowI W base v xs) {g : Nat} {o : Obj} (ho : W.heap[g]? = some o) (hne : ∀ cells, o ≠ .cells cells 3 (0, 0)) : some g ≠ v.ownBlock := fun e => by
  obtain ⟨cells, hc⟩ := h.typed e.symm
  rw [hc] at ho
  injection ho with ho
  exact hne cells ho.symm
theorem Mid2.gathered (hI : Mid2 w lb r n bx bp m fl f left cnt L LA av W) (h1 : W.grownBy W1 (some bp)) (hm1 : ∃ es c, W1.heap[bp]? = some (.map es c)) {v : Va} (hv : GoodV v) {id : Int} {r' : Value} (hu : RowI W' w.heap.size r' (L v ++ [id]))
    (h2 : W1.grownBy W' ((f (klv v)).getD (.slice none 0 0)).ownBlock) (hat : ∀ k, r'.ownBlock = some k → some k = ((f (klv v)).getD (.slice none 0 0)).ownBlock ∨ W1.heap.size ≤ k)
    (hM : MapF Try.prog 24 w3 bp (m + 1) (upd f (klv v) r')) (h3 : W'.grownBy w3 (some bp)) : Mid2 w lb r n bx bp (m + 1) fl (upd f (klv v) r') left cnt (updL L v (L v ++ [id])) LA av w3 := by
  obtain ⟨es0, c0, hm0⟩ := hI.M.obj
  obtain ⟨o, ho, k1, k2⟩ := hI.G.obj
  have hG1 := hI.G.kept h1 (fun e => hI.ne (by injection e with e; exact e.symm)) (obj_ne ho hm0 (k2 _ _))
  have hR1 := hI.R.other h1 hm0 (fun c e => by cases e)
  have hX1 := (h1.block _ (Array.getElem?_eq_some_iff.1 hI.X).1 (obj_ne hI.X hm0 (by simp))).trans hI.X
  have hrow := hR1.getD hv
  obtain ⟨es1, c1, hm1⟩ := hm1
  obtain ⟨es', c', hml⟩ := hG1.owns.obj
  obtain ⟨o', ho', k1', k2'⟩ := hG1.obj
  have hG2 := hG1.kept h2 (hrow.apart hml (by simp)) (hrow.apart ho' (fun c => k1' _ _ _))
  have hR2 := hR1.put hv (by simp) hu h2 (.inr rfl) hat
  have hX2 := (h2.block _ (Array.getElem?_eq_some_iff.1 hX1).1 (hrow.apart hX1 (by intro c e; injection e with _ e; exact absurd e (by decide)))).trans hX1
  have hm2 := (h2.block _ (Array.getElem?_eq_some_iff.1 hm1).1 (hrow.apart hm1 (by simp))).trans hm1
  obtain ⟨o2, ho2, k12, k22⟩ := hG2.obj
  have hG3 := hG2.kept h3 (fun e => hI.ne (by injection e with e; exact e.symm)) (obj_ne ho2 hm2 (k22 _ _))
  have hR3 := hR2.other h3 hm2 (fun c e => by cases e)
  have hX3 := (h3.block _ (Array.getElem?_eq_some_iff.1 hX2).1 (obj_ne hX2 hm2 (by simp))).trans hX2
  have hB1 := below_grown hI.B h1 (fun k e => by injection e with e; have := hI.lp; omega)
  have hB2 := below_grown hB1 h2 (fun k e => hrow.base e)
  have hB3 := below_grown hB2 h3 (fun k e => by injection e with e; have := hI.lp; omega)
  exact ⟨hG3, hM, hR3, hX3, hB3, hI.ne, hI.lx, hI.lp, hI.ll, hI.lr⟩
theorem Mid2.anyed (hI : Mid2 w lb r n bx bp m fl f left cnt L LA av W) {LA' : List Int} {r' : Value} (hu : RowI W' w.heap.size r' LA') (h2 : W.grownBy W' av.ownBlock) (hat : ∀ k, r'.ownBlock = some k → some k = av.ownBlock ∨ W.heap.size ≤ k) :
    W'.heap[bx]? = some (.cells #[.map (some bp), av] 58 (0, 0)) ∧ Mid2 w lb r n bx bp m fl f left cnt L LA' r' (W'.setCell ⟨bx, 1, none⟩ r') := by
  obtain ⟨es0, c0, hm0⟩ := hI.M.obj
  obtain ⟨es', c', hml⟩ := hI.G.owns.obj
  obtain ⟨o', ho', k1', k2'⟩ := hI.G.obj
  have hrow := hI.R.any
  have hG2 := hI.G.kept h2 (hrow.apart hml (by simp)) (hrow.apart ho' (fun c => k1' _ _ _))
  have hM2 := hI.M.kept h2 (hrow.apart hm0 (by simp))
  have hR2 := hI.R.putA hu h2 (.inr rfl) hat
  have hX2 := (h2.block _ (Array.getElem?_eq_some_iff.1 hI.X).1 (hrow.apart hI.X (by intro c e; injection e with _ e; exact absurd e (by decide)))).trans hI.X
  have hg : W'.grownBy (W'.setCell ⟨bx, 1, none⟩ r') (some bx) := ⟨rfl, rfl, rfl, by simp [World.setCell], fun k _ hk => Below.heap_setCell _ _ _ k (fun e => hk (by rw [e]))⟩
  obtain ⟨es1, c1, hm1⟩ := hM2.obj
  obtain ⟨es2, c2, hm2⟩ := hG2.owns.obj
  obtain ⟨o3, ho3, k13, k23⟩ := hG2.obj
  refine ⟨hX2, hG2.kept hg (obj_ne hm2 hX2 (by simp)) (obj_ne ho3 hX2 (k13 _ _ _)), hM2.kept hg (obj_ne hm1 hX2 (by simp)), hR2.other hg hX2 (by intro c e; injection e with _ e; exact absurd e (by decide)), ?_, below_grown (below_grown hI.B h2 (fun k e => hrow.base e)) hg (fun k e => by injection e with e; have := hI.lx; omega), hI.ne, hI.lx, hI.lp, hI.ll, hI.lr⟩
  have hlt := (Array.getElem?_eq_some_iff.1 hX2).1
  simp [World.setCell, Array.getElem?_modify, hX2]
end
/-- The state within the third loop. -/
structure Mid3 (w : World) (r bx bp m : Nat) (f : Lit → Option Value) (left : Lit → Bool) (cnt : Nat) (L : Va → List Int) (LA : List Int) (av : Value) (W : World) : Prop where
  G : GoF Try.prog 24 W bp r m f left cnt
  R : Rows W w.heap.size f (L3 left L) av LA
  X : W.heap[bx]? = some (.cells #[.map (some bp), av] 58 (0, 0))
  B : Below w.heap.size w W
  lx : w.heap.size ≤ bx
  lp : w.heap.size ≤ bp
  lr : w.heap.size ≤ r
section
variable {w W W1 W' w3 : World} {lb r n bx bp m : Nat} {fl f : Lit → Option Value} {left : Lit → Bool} {cnt : Nat} {L : Va → List Int} {LA : List Int} {av : Value}
/-- A step of the iterator; the rows are as they were. -/
theorem Mid3.step (h : Mid3 w r bx bp m f left cnt L LA av W) (hg : W.grownBy W' (some r)) {left' : Lit → Bool} {cnt' : Nat} (hG : GoF Try.prog 24 W' bp r m f left' cnt') :
    Rows W' w.heap.size f (L3 left L) av LA ∧ W'.heap[bx]? = some (.cells #[.map (some bp), av] 58 (0, 0)) ∧ Below w.heap.size w W' := by
  obtain ⟨o, ho, h1, h2⟩ := h.G.obj
  exact ⟨h.R.other hg ho (fun c => h1 _ _ _), (hg.block _ (Array.getElem?_eq_some_iff.1 h.X).1 (obj_ne h.X ho (fun e => h1 _ _ _ e.symm))).trans h.X, below_grown h.B hg (fun k e => by cases e; exact h.lr)⟩
/-- A row is taken once, in new memory, and laid back. -/
theorem Mid3.taken {x : Va} (hG : GoF Try.prog 24 W bp r m f (fun y => left y && !y.sameKey (klv x)) cnt) (hR : Rows W w.heap.size f (L3 left L) av LA) (hX : W.heap[bx]? = some (.cells #[.map (some bp), av] 58 (0, 0))) (hB : Below w.heap.size w W) (lx : w.heap.size ≤ bx) (lp : w.heap.size ≤ bp) (lr : w.heap.size ≤ r)
    (hx : GoodV x) (hn : L x ≠ []) {u' : Value} (hB4 : Below W.heap.size W W1) (hu : RowI W1 W.heap.size u' (unionL (L x))) (hG5 : GoF Try.prog 24 w3 bp r m (upd f (klv x) u') (fun y => left y && !y.sameKey (klv x)) cnt) (hg5 : W1.grownBy w3 (some bp)) :
    Mid3 w r bx bp m (upd f (klv x) u') (fun y => left y && !y.sameKey (klv x)) cnt L LA av w3 := by
  have hR1 := hR.put hx (fun e => hn ((unionL_nil_iff _).1 e)) (hu.lower hB.size) (row := none) ⟨hB4.os, hB4.tape, hB4.output, hB4.size, fun k hk _ => hB4.block k hk⟩ (.inl rfl) (fun k hk => .inr (hu.base hk))
  have hX1 := (hB4.block _ (Array.getElem?_eq_some_iff.1 hX).1).trans hX
  obtain ⟨es, c, hm⟩ := (hG.below hB4).owns.obj
  exact ⟨hG5, (hR1.other hg5 hm (fun c e => by cases e)).congr (fun v hv => L3_step hx hv), (hg5.block _ (Array.getElem?_eq_some_iff.1 hX1).1 (obj_ne hX1 hm (by simp))).trans hX1, below_grown (hB.trans (hB4.mono hB.size)) hg5 (fun k e => by cases e; exact lp), lx, lp, lr⟩
/-- The end: the row of all is taken once. -/
theorem Mid3.finish (h : Mid3 w r bx bp m f left cnt L LA av W) {l : List Pt} {name : ByteArray} (hall : ∀ v, GoodV v → L3 left L v = findL l name v) (hm : m ≤ l.length) (hB4 : Below W.heap.size W W1) {u' : Value} (hu : RowI W1 W.heap.size u' (anyL l name)) :
    W1.heap[bx]? = some (.cells #[.map (some bp), av] 58 (0, 0)) ∧ WIdx l name w.heap.size (W1.setCell ⟨bx, 1, none⟩ u') (.pointer (some ⟨bx, 0, none⟩)) ∧ Below w.heap.size w (W1.setCell ⟨bx, 1, none⟩ u') := by
  have hX1 := (hB4.block _ (Array.getElem?_eq_some_iff.1 h.X).1).trans h.X
  have hR1 := (h.R.congr hall).putA (hu.lower h.B.size) (row := none) ⟨hB4.os, hB4.tape, hB4.output, hB4.size, fun k hk _ => hB4.block k hk⟩ (.inl rfl) (fun k hk => .inr (hu.base hk))
  have hM1 := h.G.owns.below hB4
  have hg : W1.grownBy (W1.setCell ⟨bx, 1, none⟩ u') (some bx) := ⟨rfl, rfl, rfl, by simp [World.setCell], fun k _ hk => Below.heap_setCell _ _ _ k (fun e => hk (by rw [e]))⟩
  obtain ⟨es1, c1, hm1⟩ := hM1.obj
  refine ⟨hX1, ⟨bx, bp, m, u', f, rfl, ?_, h.lx, h.lp, hm, hM1.kept hg (obj_ne hm1 hX1 (by simp)), hR1.other hg hX1 (by intro c e; injection e with _ e; exact absurd e (by decide))⟩, below_grown (h.B.trans (hB4.mono h.B.size)) hg (fun k e => by injection e with e; have := h.lx; omega)⟩
  simp [World.setCell, Array.getElem?_modify, hX1]
end
end Go.Proofs.Ytcpaejdipohndaa.V
namespace Go.Proofs.Ytcpaejdipohndaa.V
open Go.RowKit Go.Sort Go.Shelf Go.Lib Go.Maps Go.Proofs.YtcpaejdipohndaaW.PrintWords Go.Proofs.Ytcpaejdipohndaa.PAll
set_option linter.unusedVariables false

theorem pts_of_C {w : World} {A : Option Addr} {xs : List Pt} (h : Kd.C k33 w A xs.length xs) (hn : 0 < xs.length) :
    ∃ b off, A = some ⟨b, off, none⟩ ∧ b < w.heap.size ∧ ∀ j (hj : j < xs.length), ∃ A1 c1 A2 c2, w.cell? ⟨b, off + j * 3, none⟩ = some (.int .i64 xs[j].f0) ∧ w.cell? ⟨b, off + j * 3 + 1, none⟩ = some (.slice A1 xs[j].f1.length c1) ∧ w.cell? ⟨b, off + j * 3 + 2, none⟩ = some (.slice A2 xs[j].f2.length c2) ∧ xs[j].f2.length ≤ c2 ∧ Kd.C k35 w A2 xs[j].f2.length xs[j].f2 := by
  obtain ⟨ad, A1, c1, A2, c2, rfl, h00, -⟩ := at_T33 h 0 (Int.le_refl _) (by omega)
  obtain ⟨b, off, sp⟩ := ad
  have hsp : sp = none := by
    cases sp with
    | none => rfl
    | some s =>
      simp only [Int.toNat_zero, Nat.zero_mul, Addr.add, if_true, World.cell?] at h00
      split at h00 <;> simp at h00
  subst hsp
  have hb : b < w.heap.size := World.block_lt_of_cell? w _ h00
  refine ⟨b, off, rfl, hb, fun j hj => ?_⟩
  obtain ⟨ad, A1, c1, A2, c2, e, h1, h2, h3, h4, h5, h6, h7⟩ := at_T33 h (j : Int) (by omega) (by omega)
  cases e
  have ea : ((⟨b, off, none⟩ : Addr).add ((j : Int).toNat * 3)) = ⟨b, off + j * 3, none⟩ := by unfold Addr.add; split <;> simp_all
  rw [ea] at h1 h2 h3
  have er : rd_T33 xs (j : Int) = xs[j] := by unfold rd_T33; simp [hj]
  rw [er] at h1 h2 h3 h4 h5 h6 h7
  exact ⟨A1, c1, A2, c2, h1, h2, h3, h6, h7⟩
structure GoodL (l : List Pt) : Prop where
  ids : ∀ p ∈ l, (Lit.int .i64 p.f0).wf = true
  len : ∀ p ∈ l, p.f2.length ≤ 1048576
  vals : ∀ p ∈ l, ∀ x ∈ p.f2, GoodV x.f1
theorem getV_good {l : List Pt} (h : GoodL l) {p : Pt} (hp : p ∈ l) {name : ByteArray} {v : Va} (hv : getV p.f2 name = some v) : GoodV v := by
  unfold getV at hv
  obtain ⟨x, hx, rfl⟩ := Option.map_eq_some_iff.1 hv
  exact h.vals p hp x (List.mem_of_find?_eq_some hx)

theorem zeroR (w : World) : (zeroValue 37).run Try.prog w = .ok (.slice none 0 0) w := by kernel_rfl
set_option maxRecDepth 100000 in
set_option maxHeartbeats 2000000 in
theorem build_calls (A : Option Addr) (c : Nat) (l : List Pt) (name : ByteArray) (w : World) (hC : Kd.C k33 w A l.length l) (hc0 : l.length ≤ c) (hn : l.length ≤ 1048576) (hG : GoodL l) :
    Calls Try.prog 8 #[.slice A l.length c, .string name] w fun e w' => ∃ x, e = .returned x ∧ WIdx l name w.heap.size w' x ∧ Below w.heap.size w w' := by
  have hmm := @run_makeMap Try.prog
  have HC := Lib.hid hC
  clear hC
  have HG := Lib.hid hG
  clear hG
  go_enter Try.func8, Try.ntmps8
  go_wp2_with fail
  have hM0 := MapF.made w Try.prog 3
  have hB0 : Below w.heap.size w (w.alloc (.map #[] 0)) := (Below.refl _ w).alloc (Nat.le_refl _) _
  have hlb : w.heap.size ≤ w.heap.size := Nat.le_refl _
  generalize hlb' : w.heap.size = lb at hM0 hlb ⊢
  generalize w.alloc (.map #[] 0) = W0 at hM0 hB0 ⊢
  go_loopw [18] (fun s W => ∃ (k : Nat) (f : Lit → Option Value), k ≤ l.length ∧ s = .int .i64 k ∧ MapF Try.prog 3 W lb k f ∧ Last w (l.take k) f ∧ Below w.heap.size w W) (fun s _ => l.length - (intOf s).toNat)
  case atStart => exact ⟨0, _, Nat.zero_le _, rfl, hM0, Last.start w, hB0⟩
  case round =>
    clear hM0 hB0
    obtain ⟨k, f, hk, rfl, hM, hL, hB⟩ := hrel
    by_cases hlt : k < l.length
    · have hlt' : decide ((k : Int) < (l.length : Int)) = true := decide_eq_true (by omega)
      obtain ⟨b, off, rfl, hbl, hcs⟩ := pts_of_C HC.out (by omega)
      obtain ⟨A1, c1, A2, c2, h1, h2, h3, h4, h5⟩ := hcs k hlt
      have d1 := (hB.cell (p := ⟨b, off + k * 3, none⟩) hbl).trans h1
      have d2 := (hB.cell (p := ⟨b, off + k * 3 + 1, none⟩) hbl).trans h2
      have d3 := (hB.cell (p := ⟨b, off + k * 3 + 2, none⟩) hbl).trans h3
      have HT : Hid (l.take (k + 1) = l.take k ++ [l[k]]) := Lib.hid (List.take_succ_eq_append_getElem hlt)
      have hwf := HG.out.ids l[k] (List.getElem_mem hlt)
      have HP : Hid (PtV w (.agg #[.int .i64 l[k].f0, .slice A1 l[k].f1.length c1, .slice A2 l[k].f2.length c2]) l[k]) := Lib.hid ⟨A1, _, c1, A2, c2, rfl, h4, h5⟩
      clear h1 h2 h3 h4 h5 hcs HC
      generalize l[k] = p at d1 d2 d3 HT hwf HP
      obtain ⟨pid, pv, pf⟩ := p
      dsimp only at d1 d2 d3 hwf HP
      have hkey := keyI hwf
      have HW := Lib.hid hwf
      clear hwf
      have hmx : k < maxLen := by unfold maxLen; omega
      have Hmx := Lib.hid hmx
      clear hmx
      obtain ⟨w9, hrun, hM9, hg9⟩ := (hM.below ((Below.refl _ wr).alloc (Nat.le_refl _) (.cells #[.int .i64 pid, .slice A1 pv.length c1, .slice A2 pf.length c2] 33))).update (val := .agg #[.int .i64 pid, .slice A1 pv.length c1, .slice A2 pf.length c2]) keyedI Try.underlying55 Hmx.out hkey
      have HM9 := Lib.hid hM9
      clear hM9
      have HB9 : Hid (Below w.heap.size w w9) := Lib.hid (below_grown (hB.alloc (by have := hB.size; omega) (.cells #[.int .i64 pid, .slice A1 pv.length c1, .slice A2 pf.length c2] 33)) hg9 (fun k e => by injection e with e; omega))
      clear hg9 hM hB
      go_wp2_with fail
      go_roundw
      case rel => exact ⟨k + 1, _, by omega, by go_num, HM9.out, by rw [HT.out]; exact hL.snoc HW.out HP.out, HB9.out⟩
      case measure => simp [intOf]; omega
    · have hlt' : decide ((k : Int) < (l.length : Int)) = false := decide_eq_false (by omega)
      obtain rfl : k = l.length := by omega
      rw [List.take_length] at hL
      have HL := Lib.hid hL
      clear hL
      have hb2 : Below wr.heap.size wr ((wr.alloc (.map #[] 0)).alloc (.cells #[.map (some wr.heap.size), .slice none 0 0] 58)) := ((Below.refl _ wr).alloc (Nat.le_refl _) (.map #[] 0)).alloc (by simp) _
      have hM1 : MapF Try.prog 24 ((wr.alloc (.map #[] 0)).alloc (.cells #[.map (some wr.heap.size), .slice none 0 0] 58)) wr.heap.size 0 (fun _ => none) := (MapF.made wr _ _).below ((Below.refl _ _).alloc (Nat.le_refl _) _)
      have hX0 : ((wr.alloc (.map #[] 0)).alloc (.cells #[.map (some wr.heap.size), .slice none 0 0] 58)).heap[wr.heap.size + 1]? = some (.cells #[.map (some wr.heap.size), .slice none 0 0] 58 (0, 0)) := by
        have := World.alloc_heap_new (wr.alloc (.map #[] 0)) (.cells #[.map (some wr.heap.size), .slice none 0 0] 58)
        rwa [World.size_alloc] at this
      have hM2 := hM.below hb2
      have hlt2 := hM.lt
      obtain ⟨w9, left0, cnt0, hrun, hG0, hl0, hg0, hs0⟩ := hM2.range keyedI Try.underlying55
      have hz2 : ((wr.alloc (.map #[] 0)).alloc (.cells #[.map (some wr.heap.size), .slice none 0 0] 58)).heap.size = wr.heap.size + 1 + 1 := by simp
      have hbw := hB.size
      have hI0 : Mid2 w lb (wr.heap.size + 1 + 1) l.length (wr.heap.size + 1) wr.heap.size 0 f (fun _ => none) left0 cnt0 (fun _ => []) [] (.slice none 0 0) w9 :=
        ⟨by rw [← hz2]; exact hG0, hM1.kept hg0 (by simp), Rows.start _ _, (hg0.block _ (by rw [hz2]; omega) (by simp)).trans hX0, below_grown (hB.trans (hb2.mono hbw)) hg0 (by simp), by omega, by omega, by omega, by omega, by omega⟩
      have HI0 := Lib.hid hI0
      have HF0 := Lib.hid hl0
      clear hM1 hX0 hM2 hG0 hl0 hg0 hs0 hb2 hM hB hI0 hlt2
      go_wp2_with fail
      try go_frame
      clear hrun hz2
      have hI0 := HI0.out
      clear HI0
      generalize wr.heap.size + 1 + 1 = r at *
      generalize wr.heap.size + 1 = bx at *
      generalize wr.heap.size = bp at *
      go_loopw [32] (fun _ W => ∃ (left : Lit → Bool) (cnt : Nat) (L : Va → List Int) (LA : List Int) (av : Value) (f2 : Lit → Option Value), Mid2 w lb r l.length bx bp LA.length f f2 left cnt L LA av W ∧ Fill l name left L LA) (fun _ W => W.rangeLeft lb r)
      case atStart => exact ⟨left0, cnt0, fun _ => [], [], .slice none 0 0, fun _ => none, hI0, Fill.start HL.out name HF0.out⟩
      case round =>
        clear hI0 HF0
        obtain ⟨left, cnt, L, LA, av, f2, hI, hF⟩ := hrel
        rcases hI.G.next keyedI 0 with ⟨h0, hl0, hrun⟩ | ⟨key, v, kl, w1, cnt1, hkey, hlk, hfv, hrun, hG1, hlt1, hg1, hs1, hen⟩
        rotate_left
        · obtain ⟨id, p, hwf, rfl, hlast, hPt⟩ := HL.out.back kl v hfv
          obtain rfl : key = .int .i64 id := keyedI.inj hkey (keyI hwf)
          obtain ⟨A1, n1, c1, A2, c2, rfl, hc2, hC2⟩ := hPt
          obtain ⟨hpl, rfl⟩ := lastP_mem l id p hlast
          have hI1 := hI.iter hg1 hG1
          have hlen := HG.out.len p hpl
          have hme : wr.rangeLeft lb r = cnt := hI.G.left_eq
          have HVL : Hid (valOf l name p.f0 = getV p.f2 name) := Lib.hid (by unfold valOf; rw [hlast]; rfl)
          have hb3 : Below w1.heap.size w1 (w1.alloc (.cells #[.int .i64 p.f0, .slice A1 n1 c1, .slice A2 p.f2.length c2] 33)) := (Below.refl _ w1).alloc (Nat.le_refl _) _
          have hI3 := Lib.hid (hI1.below hb3)
          have CG := get_calls A2 c2 p.f2 name _ (Kd.C_below hC2 hI3.out.B) hc2 (by omega)
          have HF := Lib.hid hF
          have Hlt := Lib.hid hlt1
          have Hlk := Lib.hid hlk
          have hz3 : (w1.alloc (.cells #[.int .i64 p.f0, .slice A1 n1 c1, .slice A2 p.f2.length c2] 33)).heap.size = w1.heap.size + 1 := by simp
          clear hI hG1 hg1 hfv hkey hs1 hlt1 hI1 hF hC2 hb3 hlk hlast
          cases hv : getV p.f2 name with
          | none =>
            rw [hv] at CG HVL
            go_wp2_with fail
            refine CG.mono ?_
            rintro e w4 ⟨rfl, hB4⟩
            rw [show vOf none = .tuple #[.agg #[.int .i64 0, .int .i64 0, .string ⟨#[]⟩], .bool false] from rfl]
            clear CG
            go_wp2_with fail
            have hI5 := (hI3.out.below hB4).below ((Below.refl _ w4).alloc (Nat.le_refl _) (.cells #[.int .i64 0, .int .i64 0, .string ⟨#[]⟩] 24))
            go_roundw
            case rel => exact ⟨_, cnt1, L, LA, av, f2, hI5, HF.out.miss HVL.out⟩
            case measure => rw [hI5.G.left_eq, hme]; exact Hlt.out
          | some v =>
            rw [hv] at CG HVL
            have HV : Hid (GoodV v) := Lib.hid (getV_good HG.out hpl hv)
            go_wp2_with fail
            refine CG.mono ?_
            rintro e w4 ⟨rfl, hB4⟩
            rw [show vOf (some v) = .tuple #[.agg #[.int .i64 v.f0, .int .i64 v.f1, .string v.f2], .bool true] from rfl]
            have hI5 := Lib.hid ((hI3.out.below hB4).below ((Below.refl _ w4).alloc (Nat.le_refl _) (.cells #[.int .i64 v.f0, .int .i64 v.f1, .string v.f2] 24)))
            clear CG hB4 hI3 hen hrun hz3
            go_upto_region 13 with (fail)
            have hX5 := World.alloc_heap_new w4 (.cells #[.int .i64 v.f0, .int .i64 v.f1, .string v.f2] 24)
            have hnx : w4.heap.size < (w4.alloc (.cells #[.int .i64 v.f0, .int .i64 v.f1, .string v.f2] 24)).heap.size := by simp
            generalize (w4.alloc (.cells #[.int .i64 v.f0, .int .i64 v.f1, .string v.f2] 24)) = W5 at *
            generalize w4.heap.size = vb at *
            have hI6 := hI5.out.below (below_drew (Below.refl _ W5))
            have hI7 := hI6.below ((Below.refl _ W5.drew).alloc (Nat.le_refl _) (.cells #[.int .i64 p.f0] 3))
            have hLA := HF.out.lenA
            have hLv := HF.out.len v
            obtain ⟨st, wb, runE, gb, zb, mb, KB⟩ := hI7.M.entry lawV Try.underlying56 zeroR (by unfold maxLen; omega) (key := .agg #[.int .i64 v.f0, .int .i64 v.f1, .string v.f2]) (keyV HV.out)
            have hb7 : wb.heap[W5.heap.size]? = some (.cells #[.int .i64 p.f0] 3 (0, 0)) := by
              obtain ⟨es0, c0, hm0⟩ := hI7.M.obj
              have hn7 := World.alloc_heap_new W5.drew (.cells #[.int .i64 p.f0] 3)
              exact (gb.block _ (by simp) (obj_ne hn7 hm0 (by simp))).trans hn7
            have hr7 : RowI wb w.heap.size ((f2 (klv v)).getD (.slice none 0 0)) (L v) := by
              obtain ⟨es0, c0, hm0⟩ := hI7.M.obj
              exact (hI7.R.other gb hm0 (fun c e => by cases e)).getD HV.out
            have hbase : w.heap.size ≤ wb.heap.size := by rw [zb]; exact hI7.B.size
            have HBK : Hid (∀ w8, wb.grownBy w8 ((f2 (klv v)).getD (.slice none 0 0)).ownBlock → w8.heap[bp]? = wb.heap[bp]?) := Lib.hid (fun w8 hg => by
              obtain ⟨es0, c0, hm0⟩ := mb
              exact hg.block _ (Array.getElem?_eq_some_iff.1 hm0).1 (hr7.apart hm0 (by simp)))
            have k0 : W5.cell? ⟨bx, 0, none⟩ = some (.map (some bp)) := by simp [World.cell?, hI5.out.X]
            have k0' : ∀ o, (W5.alloc o).cell? ⟨bx, 0, none⟩ = some (.map (some bp)) := fun o => Lib.cell?_alloc_some _ k0
            have v0 : W5.cell? ⟨vb, 0, none⟩ = some (.int .i64 v.f0) := by simp [World.cell?, hX5]
            have v1 : W5.cell? ⟨vb, 1, none⟩ = some (.int .i64 v.f1) := by simp [World.cell?, hX5]
            have v2 : W5.cell? ⟨vb, 2, none⟩ = some (.string v.f2) := by simp [World.cell?, hX5]
            have v0' : ∀ o, (W5.alloc o).cell? ⟨vb, 0, none⟩ = some (.int .i64 v.f0) := fun o => Lib.cell?_alloc_some _ v0
            have v1' : ∀ o, (W5.alloc o).cell? ⟨vb, 1, none⟩ = some (.int .i64 v.f1) := fun o => Lib.cell?_alloc_some _ v1
            have v2' : ∀ o, (W5.alloc o).cell? ⟨vb, 2, none⟩ = some (.string v.f2) := fun o => Lib.cell?_alloc_some _ v2
            have HG7 := Lib.hid (fun w8 w10 r' (hu : RowI w8 w.heap.size r' (L v ++ [p.f0])) h2 hat hM h3 => hI7.gathered (W' := w8) (w3 := w10) gb mb HV.out (r' := r') (id := p.f0) hu h2 hat hM h3)
            clear hI6 hI7 gb zb mb hX5 hnx
            go_cut [54] (fun s wc => ∃ f3, Mid2 w lb r l.length bx bp (LA.length + 1) f f3 (fun x => left x && !x.sameKey (.int .i64 p.f0)) cnt1 (updL L v (L v ++ [p.f0])) LA av wc)
            case first =>
              change ((Instr.mapEntry 56 (.map (some bp)) (.agg #[.int .i64 v.f0, .int .i64 v.f1, .string v.f2])).run Try.prog (W5.alloc (.cells #[.int .i64 p.f0] 3)).drew = _) at runE
              go_region_law (refine step_append_i (W := wb) (base := w.heap.size) (g := W5.heap.size) (r := (f2 (klv v)).getD (.slice none 0 0)) (xs := L v) (x := p.f0) rfl (.tmp 50) (.tmp 52) rfl rfl rfl hb7 hr7 hbase (by omega) ?_; intro r' w8 hu hg8 hat8; obtain ⟨w10, runS, hM10, hg10, hz10⟩ := KB w8 r' (HBK.out w8 hg8); change (Instr.entryStore 56 (.map (some bp)) (.int .i64 st) r').run Try.prog w8 = _ at runS)
              all_goals
                (try go_wp2_with fail)
                go_meet
                case rel => exact ⟨_, HG7.out w8 w10 r' hu hg8 hat8 hM10 hg10⟩
            case rest =>
              obtain ⟨f3, hI8⟩ := hcut
              have HG7x := HG7
              clear HG7 HBK hb7 hr7 hbase KB runE k0 k0' v0 v1 v2 v0' v1' v2' hI5 HG7x
              have a1 : wc.cell? ⟨bx, 1, none⟩ = some av := by simp [World.cell?, hI8.X]
              have hI9 := hI8.below ((Below.refl _ wc).alloc (Nat.le_refl _) (.cells #[.int .i64 p.f0] 3))
              have hb9 := World.alloc_heap_new wc (.cells #[.int .i64 p.f0] 3)
              have hr9 := hI9.R.any
              have hbase9 := hI9.B.size
              have HI9 := Lib.hid hI9
              clear hI8 hI9
              go_wp2_with ((with_reducible refine gate_builtin (b := .append) (xs := #[.tmp 60, .tmp 62]) rfl ?_); at_builtin; refine wpList_append_i (W := wc.alloc (.cells #[.int .i64 p.f0] 3)) (base := w.heap.size) (g := wc.heap.size) (r := av) (xs := LA) (x := p.f0) rfl (.tmp 60) (.tmp 62) rfl rfl rfl hb9 hr9 hbase9 (by omega) ?_; intro r' w8 hu hg8 hat8; obtain ⟨A7, c7, e7, -, -⟩ := hu.reads; subst e7; obtain ⟨hX8, hI10⟩ := HI9.out.anyed hu hg8 hat8; rw [List.length_append, List.length_singleton] at hI10; have HI10 := Lib.hid hI10; have q0 : w8.cell? ⟨bx, 1, none⟩ = some av := (by simp [World.cell?, hX8]); have q1 : w8.frozen? ⟨bx, 1, none⟩ = false := (by simp [World.frozen?, hX8]); have q2 : w8.shape? bx = some (58, 2) := (by simp [World.shape?, hX8]); clear hX8 hI10)
              go_roundw
              case rel => exact ⟨_, cnt1, updL L v (L v ++ [p.f0]), LA ++ [p.f0], _, f3, by rw [List.length_append, List.length_singleton]; exact HI10.out, HF.out.hit HVL.out Hlk.out⟩
              case measure => rw [HI10.out.G.left_eq, hme]; exact Hlt.out
        · obtain ⟨hLL, hAL⟩ := hF.done hl0
          have hR3 := hI.R
          obtain ⟨w2, left3, cnt3, hrun3, hG3, hl3, hg3, hs3⟩ := hI.M.range keyedV Try.underlying56
          have a0 : wr.cell? ⟨bx, 0, none⟩ = some (.map (some bp)) := by simp [World.cell?, hI.X]
          have HLen := Lib.hid hF.len
          have HLA := Lib.hid hF.lenA
          have HLL := Lib.hid hLL
          have HAL := Lib.hid hAL
          have HJ0 : Hid (Mid3 w wr.heap.size bx bp LA.length f2 left3 cnt3 L LA av w2) := Lib.hid ⟨hG3, L3_start (hI.R.kept hg3 (by simp) (by simp)) hl3, (hg3.block _ (Array.getElem?_eq_some_iff.1 hI.X).1 (by simp)).trans hI.X, below_grown hI.B hg3 (by simp), hI.lx, hI.lp, hI.B.size⟩
          clear HL hLL hAL hR3 hG3 hl3 hg3 hs3 hI hF hl0
          go_wp2_with fail
          try go_frame
          clear hrun3 hrun a0
          have hJ0 := HJ0.out
          clear HJ0
          generalize wr.heap.size = r3 at *
          go_loopw [71] (fun _ W => ∃ (left : Lit → Bool) (cnt : Nat) (f3 : Lit → Option Value), Mid3 w r3 bx bp LA.length f3 left cnt L LA av W) (fun _ W => W.rangeLeft bp r3)
          case atStart => exact ⟨left3, cnt3, f2, hJ0⟩
          case round =>
            clear hJ0
            obtain ⟨left', cnt', f3, hJ⟩ := hrel
            rcases hJ.G.next keyedV 0 with ⟨h0', hl0', hrun⟩ | ⟨key, u, kl, w1, cnt1, hkey, hlk, hfv, hrun, hG1, hlt1, hg1, hs1, hen⟩
            · have hall : ∀ v, GoodV v → L3 left' L v = findL l name v := fun v _ => by unfold L3; rw [hl0']; simp; exact HLL.out v
              have CA := union1_calls hJ.R.any (by have := HLA.out; omega)
              rw [HAL.out] at CA
              have a1 : wr.cell? ⟨bx, 1, none⟩ = some av := by simp [World.cell?, hJ.X]
              have HFin := Lib.hid (fun W1 u' hB4 hu => hJ.finish (W1 := W1) (u' := u') hall HLA.out hB4 hu)
              clear hall hJ
              go_wp2_with fail
              refine CA.mono ?_
              rintro e W4 ⟨u', rfl, hu, hB4⟩
              obtain ⟨A7, c7, e7, -, -⟩ := hu.reads
              subst e7
              obtain ⟨hX4, hI4, hB5⟩ := HFin.out W4 _ hB4 hu
              have HI4 := Lib.hid hI4
              have HB5 := Lib.hid hB5
              have q0 : W4.cell? ⟨bx, 1, none⟩ = some av := by simp [World.cell?, hX4]
              have q1 : W4.frozen? ⟨bx, 1, none⟩ = false := by simp [World.frozen?, hX4]
              have q2 : W4.shape? bx = some (58, 2) := by simp [World.shape?, hX4]
              clear CA hI4 hB5 hX4 HFin hu hB4
              go_wp2_with fail
              go_ret
              exact ⟨_, rfl, HI4.out, HB5.out⟩
            · obtain ⟨x, hx, rfl, hnx, hrow⟩ := hJ.R.at_ hfv
              obtain rfl : key = .agg #[.int .i64 x.f0, .int .i64 x.f1, .string x.f2] := keyedV.inj hkey (keyV hx)
              have e3 : L3 left' L x = L x := by unfold L3; rw [if_pos hlk]
              rw [e3] at hnx
              obtain ⟨hR1, hX1, hB1⟩ := hJ.step hg1 hG1
              have hb3 : Below w1.heap.size w1 (w1.alloc (.cells #[.int .i64 x.f0, .int .i64 x.f1, .string x.f2] 24)) := (Below.refl _ w1).alloc (Nat.le_refl _) _
              have hV3 := World.alloc_heap_new w1 (.cells #[.int .i64 x.f0, .int .i64 x.f1, .string x.f2] 24)
              have hG3 := hG1.below hb3
              have hR3 := hR1.below hb3
              have hX3 := (hb3.block _ (Array.getElem?_eq_some_iff.1 hX1).1).trans hX1
              have hB3 := hB1.trans (hb3.mono hB1.size)
              have hme : wr.rangeLeft bp r3 = cnt' := hJ.G.left_eq
              have lx := hJ.lx
              have lp := hJ.lp
              have lr := hJ.lr
              clear hJ hG1 hg1 hs1 hR1 hX1 hB1 hb3 hrow hkey hlk
              go_upto_region 18 with (fail)
              generalize (w1.alloc (.cells #[.int .i64 x.f0, .int .i64 x.f1, .string x.f2] 24)) = W3 at *
              generalize w1.heap.size = vb at *
              have hD : Below W3.heap.size W3 W3.drew := below_drew (Below.refl _ W3)
              have k0 : W3.cell? ⟨bx, 0, none⟩ = some (.map (some bp)) := by simp [World.cell?, hX3]
              have v0 : W3.cell? ⟨vb, 0, none⟩ = some (.int .i64 x.f0) := by simp [World.cell?, hV3]
              have v1 : W3.cell? ⟨vb, 1, none⟩ = some (.int .i64 x.f1) := by simp [World.cell?, hV3]
              have v2 : W3.cell? ⟨vb, 2, none⟩ = some (.string x.f2) := by simp [World.cell?, hV3]
              have HC4 : Hid (∀ W4, Below W3.drew.heap.size W3.drew W4 → (W4.cell? ⟨bx, 0, none⟩ = some (.map (some bp))) ∧ (W4.cell? ⟨vb, 0, none⟩ = some (.int .i64 x.f0)) ∧ (W4.cell? ⟨vb, 1, none⟩ = some (.int .i64 x.f1)) ∧ W4.cell? ⟨vb, 2, none⟩ = some (.string x.f2)) := Lib.hid (fun W4 hb => by
                have e1 := (hb.block _ (Array.getElem?_eq_some_iff.1 hX3).1).trans hX3
                have e2 := (hb.block _ (Array.getElem?_eq_some_iff.1 hV3).1).trans hV3
                exact ⟨by simp [World.cell?, e1], by simp [World.cell?, e2], by simp [World.cell?, e2], by simp [World.cell?, e2]⟩)
              have hrow3 : RowI W3.drew w.heap.size u (L x) := by
                obtain ⟨u', hu', hr⟩ := hR3.yes x hx (by rw [e3]; exact hnx)
                rw [hfv] at hu'
                cases hu'
                rw [e3] at hr
                exact hr.below hD
              have CU := union1_calls hrow3 (by have := HLen.out x; omega)
              have KU := fun W4 u' (hb : Below W3.drew.heap.size W3.drew W4) => ((hG3.below hD).below hb).store keyedV Try.underlying56 (by have := HLA.out; unfold maxLen; omega) (key := .agg #[.int .i64 x.f0, .int .i64 x.f1, .string x.f2]) (val := u') (keyV hx) hfv
              have HT := Lib.hid (fun W4 w5 u' hB4 hu hG5 hg5 => Mid3.taken (W := W3.drew) (W1 := W4) (w3 := w5) (u' := u') (hG3.below hD) (hR3.below hD) hX3 (hB3.trans (hD.mono hB3.size)) lx lp lr hx hnx hB4 hu hG5 hg5)
              have Hlt := Lib.hid hlt1
              clear hrow3 hG3 hR3 hX3 hB3 hD hV3 hfv e3 hnx hlt1 hen hrun
              go_region_law (go_simp; refine CU.mono ?_; rintro e W4 ⟨u', rfl, hu, hB4⟩; obtain ⟨w5, runU, hG5, hg5⟩ := KU W4 u' hB4; obtain ⟨c0, c1, c2, c3⟩ := HC4.out W4 hB4; dsimp only)
              all_goals
                (try go_wp2_with fail)
                go_roundw
                case rel => exact ⟨_, cnt1, _, HT.out W4 w5 u' hB4 hu hG5 hg5⟩
                case measure => rw [hG5.left_eq, hme]; exact Hlt.out
end Go.Proofs.Ytcpaejdipohndaa.V
namespace Go.Proofs.Ytcpaejdipohndaa.V
open Go.RowKit Go.Sort Go.Shelf Go.Lib Go.Maps Go.Proofs.YtcpaejdipohndaaW.PrintWords Go.Proofs.Ytcpaejdipohndaa.PAll
set_option linter.unusedVariables false
section
variable {ops : Array Oper} {o : Oper} {a : Act} {rest : List Oper} {Q : Exit → Act → World → Prop}
/-- append(nil, row...): a copy in new memory. -/
theorem step_copy_i {W : World} {Kc : Act → World → Prop} {base : Nat} {r : Value} {xs : List Int} (hgd : o.guard = none) (s y : Operand)
    (ho : o.op = .call { callee := .builtin .append, args := #[s, y], argTypes := #[37, 37] }) (hs : a.eval s = .slice none 0 0) (hy : a.eval y = r) (hr : RowI W base r xs) (hl : xs.length ≤ 1048576)
    (h : ∀ r' W', RowI W' W.heap.size r' xs → Below W.heap.size W W' → Kc (a.put o.dst r') W') :
    if Region.wanted o (yielded ops a.tmps) = true then Oper.wp Try.prog o a W Kc Q else Kc (a.put o.dst undef) W := by
  obtain ⟨A, c, rfl, hc, hC⟩ := hr.reads
  refine Kd.R_append_rows_step (Kd.int .i64) (Rr := (Kd.int .i64).K W) (w0 := W) W.heap.size (by simp [Region.wanted, hgd]) s y 37 3 (.int .i64 0) 8 ho Try.underlying37 infoI rfl (by decide) (by decide) (.slice none 0 0) [] xs A xs.length c (fun _ => True) (fun _ => False) hs hy (Kd.R_nil _ _ _ _ _) hC (fun x cs h => h) (fun _ h => h.elim) (fun _ _ => trivial) (Below.refl _ _) (Nat.le_refl _) (by simp; omega) ?_
  intro v1 w1 hR1 hb1 _ _
  rw [List.nil_append] at hR1
  exact h _ _ (.ofR hR1) hb1
theorem wpList_copy_i {W : World} {base : Nat} {r : Value} {xs : List Int} (hgd : o.guard = none) (s y : Operand)
    (ho : o.op = .call { callee := .builtin .append, args := #[s, y], argTypes := #[37, 37] }) (hs : a.eval s = .slice none 0 0) (hy : a.eval y = r) (hr : RowI W base r xs) (hl : xs.length ≤ 1048576)
    (h : ∀ r' W', RowI W' W.heap.size r' xs → Below W.heap.size W W' → wpList Try.prog ops Q rest (a.put o.dst r') W') : wpList Try.prog ops Q (o :: rest) a W := by
  obtain ⟨A, c, rfl, hc, hC⟩ := hr.reads
  refine Kd.R_append_rows (Kd.int .i64) (Rr := (Kd.int .i64).K W) (w0 := W) W.heap.size hgd s y 37 3 (.int .i64 0) 8 ho Try.underlying37 infoI rfl (by decide) (by decide) (.slice none 0 0) [] xs A xs.length c (fun _ => True) (fun _ => False) hs hy (Kd.R_nil _ _ _ _ _) hC (fun x cs h => h) (fun _ h => h.elim) (fun _ _ => trivial) (Below.refl _ _) (Nat.le_refl _) (by simp; omega) ?_
  intro v1 w1 hR1 hb1 _ _
  rw [List.nil_append] at hR1
  exact h _ _ (.ofR hR1) hb1
end
theorem findL_le (l : List Pt) (name : ByteArray) (v : Va) : (findL l name v).length ≤ l.length := by
  refine Nat.le_trans (unionL_le _) (Nat.le_trans (List.length_filter_le _ _) (by simp))
theorem anyL_le (l : List Pt) (name : ByteArray) : (anyL l name).length ≤ l.length := by
  refine Nat.le_trans (unionL_le _) (Nat.le_trans (List.length_filter_le _ _) (by simp))
set_option maxRecDepth 100000 in
set_option maxHeartbeats 1000000 in
theorem find_calls {l : List Pt} {name : ByteArray} {base : Nat} {w : World} {x : Value} (h : WIdx l name base w x) (hn : l.length ≤ 1048576) {v : Va} (hv : GoodV v) :
    Calls Try.prog 11 #[x, .agg #[.int .i64 v.f0, .int .i64 v.f1, .string v.f2]] w fun e w' => ∃ u, e = .returned u ∧ RowI w' w.heap.size u (findL l name v) ∧ Below w.heap.size w w' := by
  obtain ⟨bx, bp, m, av, f, rfl, hX, hlx, hlp, hm, hM, hR⟩ := h
  have hb1 : Below w.heap.size w (w.alloc (.cells #[.int .i64 v.f0, .int .i64 v.f1, .string v.f2] 24)) := (Below.refl _ w).alloc (Nat.le_refl _) _
  have hV1 := World.alloc_heap_new w (.cells #[.int .i64 v.f0, .int .i64 v.f1, .string v.f2] 24)
  have hX1 := (hb1.block _ (Array.getElem?_eq_some_iff.1 hX).1).trans hX
  have hM1 := hM.below hb1
  have hR1 := hR.below hb1
  have HB1 := Lib.hid hb1
  clear hM hR hb1
  go_enter Try.func11, Try.ntmps11
  go_wp2_with fail
  have k0 : (w.alloc (.cells #[.int .i64 v.f0, .int .i64 v.f1, .string v.f2] 24)).cell? ⟨bx, 0, none⟩ = some (.map (some bp)) := by simp [World.cell?, hX1]
  generalize (w.alloc (.cells #[.int .i64 v.f0, .int .i64 v.f1, .string v.f2] 24)) = W1 at *
  have v0 : W1.cell? ⟨w.heap.size, 0, none⟩ = some (.int .i64 v.f0) := by simp [World.cell?, hV1]
  have v1 : W1.cell? ⟨w.heap.size, 1, none⟩ = some (.int .i64 v.f1) := by simp [World.cell?, hV1]
  have v2 : W1.cell? ⟨w.heap.size, 2, none⟩ = some (.string v.f2) := by simp [World.cell?, hV1]
  have hD : Below W1.heap.size W1 W1.drew := below_drew (Below.refl _ W1)
  have hrun := (hM1.below hD).lookup keyedV Try.underlying56 (zeroR _) (key := .agg #[.int .i64 v.f0, .int .i64 v.f1, .string v.f2]) (keyV hv)
  have hrow := (hR1.below hD).getD hv
  have hl := findL_le l name v
  have HD := Lib.hid hD
  clear hM1 hR1 hX1 hV1 hD
  go_region_law (refine step_copy_i (W := W1.drew) (r := (f (klv v)).getD (.slice none 0 0)) (xs := findL l name v) rfl (.const (.slice none 0 0)) (.tmp 12) rfl rfl rfl hrow (by omega) ?_; intro r' W' hu hB)
  all_goals
    (try go_wp2_with fail)
    go_ret
    have hz : w.heap.size ≤ W1.heap.size := HB1.out.size
    exact ⟨_, rfl, hu.lower hz, HB1.out.trans ((HD.out.trans hB).mono hz)⟩
set_option maxHeartbeats 1000000 in
theorem any_calls {l : List Pt} {name : ByteArray} {base : Nat} {w : World} {x : Value} (h : WIdx l name base w x) (hn : l.length ≤ 1048576) :
    Calls Try.prog 13 #[x] w fun e w' => ∃ u, e = .returned u ∧ RowI w' w.heap.size u (anyL l name) ∧ Below w.heap.size w w' := by
  obtain ⟨bx, bp, m, av, f, rfl, hX, hlx, hlp, hm, hM, hR⟩ := h
  have k0 : w.cell? ⟨bx, 1, none⟩ = some av := by simp [World.cell?, hX]
  have hrow := hR.any
  have hl := anyL_le l name
  clear hM hR hX
  go_enter Try.func13, Try.ntmps13
  go_wp2_with ((with_reducible refine gate_builtin (b := .append) (xs := #[.const (.slice none 0 0), .tmp 8]) rfl ?_); at_builtin; refine wpList_copy_i (W := w) (r := av) (xs := anyL l name) rfl (.const (.slice none 0 0)) (.tmp 8) rfl rfl rfl hrow (by omega) ?_; intro r' W' hu hB)
  go_ret
  exact ⟨_, rfl, hu, hB⟩
theorem len_calls {l : List Pt} {name : ByteArray} {base : Nat} {w : World} {x : Value} (h : WIdx l name base w x) :
    Calls Try.prog 18 #[x] w fun e w' => e = .returned (.int .i64 (anyL l name).length) ∧ w' = w := by
  obtain ⟨bx, bp, m, av, f, rfl, hX, hlx, hlp, hm, hM, hR⟩ := h
  obtain ⟨A, c, rfl, -, -⟩ := hR.any.reads
  have k0 : w.cell? ⟨bx, 1, none⟩ = some (.slice A (anyL l name).length c) := by simp [World.cell?, hX]
  clear hM hR hX
  go_enter Try.func18, Try.ntmps18
  go_wp2_with fail
  go_ret
  exact ⟨rfl, rfl⟩
theorem find_none (v : Va) (w : World) : Calls Try.prog 11 #[.pointer none, .agg #[.int .i64 v.f0, .int .i64 v.f1, .string v.f2]] w fun e w' => e = .returned (.slice none 0 0) ∧ Below w.heap.size w w' := by
  have hb1 : Below w.heap.size w (w.alloc (.cells #[.int .i64 v.f0, .int .i64 v.f1, .string v.f2] 24)) := (Below.refl _ w).alloc (Nat.le_refl _) _
  go_enter Try.func11, Try.ntmps11
  go_wp2_with fail
  go_ret
  exact ⟨rfl, hb1⟩
theorem any_none (w : World) : Calls Try.prog 13 #[.pointer none] w fun e w' => e = .returned (.slice none 0 0) ∧ w' = w := by
  go_enter Try.func13, Try.ntmps13
  go_wp2_with fail
  go_ret
  exact ⟨rfl, rfl⟩
theorem len_none (w : World) : Calls Try.prog 18 #[.pointer none] w fun e w' => e = .returned (.int .i64 0) ∧ w' = w := by
  go_enter Try.func18, Try.ntmps18
  go_wp2_with fail
  go_ret
  exact ⟨rfl, rfl⟩
theorem values_none (w : World) : Calls Try.prog 16 #[.pointer none] w fun e w' => e = .returned (.slice none 0 0) ∧ w' = w := by
  go_enter Try.func16, Try.ntmps16
  go_wp2_with fail
  go_ret
  exact ⟨rfl, rfl⟩
end Go.Proofs.Ytcpaejdipohndaa.V
