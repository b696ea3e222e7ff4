/- Maps in memory as lists of keys and elements: lookup, and the storing of an entry in its two steps; no condition. -/
import Derived.WalkKit
import Derived.Maps.Keyed
import Derived.WideKeyEntry
import Derived.DeepKeys4
import Derived.Below
namespace Go.Proofs.Ytgehdkbjcpdjoaa
open Go.RowKit Go.WideElems Go.ChangeMaps Go.Maps
set_option linter.unusedVariables false
set_option linter.unusedSectionVars false
set_option linter.unusedSimpArgs false

theorem nodup_ne {α : Type} {l : List α} (h : l.Nodup) (i j : Nat) (hij : i < j) (hj : j < l.length) : l[i]? ≠ l[j]? := by
  have := List.pairwise_iff_getElem.1 h i j (by omega) hj hij
  rw [List.getElem?_eq_getElem (by omega), List.getElem?_eq_getElem hj]
  intro e
  injection e with e
  exact this e

/-- The block b holds the map whose keys and elements are l. -/
def MapObj {κ ν : Type} (kv : κ → Value) (vv : ν → Value) (l : List (κ × ν)) (es : Array MapEntry) (clk : Nat) : Prop :=
  (l.map (·.1)).Nodup ∧ es.toList.map (fun e => (e.key, e.val)) = l.map (fun p => (kv p.1, vv p.2)) ∧ (∀ e ∈ es.toList, e.born < clk) ∧ (es.toList.map (·.born)).Nodup

theorem MapObj.empty {κ ν : Type} {kv : κ → Value} {vv : ν → Value} : MapObj kv vv ([] : List (κ × ν)) #[] 0 := ⟨by simp, by simp, by simp, by simp⟩

/-- An element is put behind its key. -/
def put {κ ν : Type} [DecidableEq κ] (l : List (κ × ν)) (x : κ) (y : ν) : List (κ × ν) :=
  if x ∈ l.map (·.1) then l.map (fun p => if p.1 = x then (x, y) else p) else l ++ [(x, y)]
def get {κ ν : Type} [DecidableEq κ] (l : List (κ × ν)) (x : κ) : Option ν := (l.find? (fun p => decide (p.1 = x))).map (·.2)

/-- Keys of type k are written so. -/
structure KeyVal (P : Program) (k : TypeId) {κ : Type} (kv : κ → Value) (ok : κ → Prop) : Prop where
  key : ∀ a, ok a → ∃ q, keyOf P k (kv a) = some q
  inj : ∀ a b, kv a = kv b → a = b

section
variable {P : Program} {k e t : TypeId} {κ ν : Type} [DecidableEq κ] {kv : κ → Value} {vv : ν → Value} {ok : κ → Prop} {l : List (κ × ν)} {es : Array MapEntry} {clk : Nat}
theorem MapObj.at' (h : MapObj kv vv l es clk) (i : Nat) (p : κ × ν) (hi : l[i]? = some p) : ∃ q, es.toList[i]? = some q ∧ q.key = kv p.1 ∧ q.val = vv p.2 := by
  have h1 := congrArg (fun z => z[i]?) h.2.1
  simp only [List.getElem?_map, hi, Option.map_some] at h1
  obtain ⟨q, hq, he⟩ := Option.map_eq_some_iff.1 h1
  simp only [Prod.mk.injEq] at he
  exact ⟨q, hq, he.1, he.2⟩
theorem MapObj.len (h : MapObj kv vv l es clk) : es.toList.length = l.length := by
  have := congrArg List.length h.2.1
  simpa using this
theorem MapObj.keys (h : MapObj kv vv l es clk) (K : KeyVal P k kv ok) (hok : ∀ p ∈ l, ok p.1) : ∀ q ∈ es.toList, ∃ z, keyOf P k q.key = some z := by
  intro q hq
  obtain ⟨i, hi⟩ := List.mem_iff_getElem?.1 hq
  have hl : i < l.length := by have := (List.getElem?_eq_some_iff.1 hi).1; rw [h.len] at this; exact this
  obtain ⟨q', hq', h1, h2⟩ := h.at' i l[i] (List.getElem?_eq_getElem hl)
  rw [hi] at hq'
  injection hq' with hq'
  subst hq'
  rw [h1]
  exact K.key _ (hok _ (List.getElem_mem hl))
/-- Where a key is, or that it is not there. -/
theorem MapObj.find (h : MapObj kv vv l es clk) (KD : Keyed P k) (K : KeyVal P k kv ok) (hok : ∀ p ∈ l, ok p.1) (x : κ) (hx : ok x) (w : World) :
    (get l x = none ∧ x ∉ l.map (·.1) ∧ (Instr.findKey k (kv x) es.toList).run P w = .ok none w ∧ ∀ q ∈ es.toList, q.key ≠ kv x) ∨
    ∃ i y q, get l x = some y ∧ l[i]? = some (x, y) ∧ es.toList[i]? = some q ∧ q.key = kv x ∧ q.val = vv y ∧ (Instr.findKey k (kv x) es.toList).run P w = .ok (some (i, vv y)) w := by
  obtain ⟨z, hz⟩ := K.key x hx
  have nd := h.1
  rcases KD.find w hz es.toList (h.keys K hok) with ⟨h1, h2⟩ | ⟨j, q, h1, h2, h3⟩
  · left
    have hno : x ∉ l.map (·.1) := by
      intro hm
      obtain ⟨p, hp, rfl⟩ := List.mem_map.1 hm
      obtain ⟨i, hi⟩ := List.mem_iff_getElem?.1 hp
      obtain ⟨q, hq, e1, _⟩ := h.at' i p hi
      exact h2 q (List.mem_of_getElem? hq) e1
    refine ⟨?_, hno, h1, h2⟩
    unfold get
    rw [List.find?_eq_none.2 (fun p hp => by
      simp only [decide_eq_true_eq]
      intro e1
      exact hno (List.mem_map.2 ⟨p, hp, e1⟩))]
    rfl
  · right
    have hl : j < l.length := by have := (List.getElem?_eq_some_iff.1 h2).1; rw [h.len] at this; exact this
    have hp : l[j]? = some l[j] := List.getElem?_eq_getElem hl
    obtain ⟨q', hq', e1, e2⟩ := h.at' j l[j] hp
    rw [h2] at hq'
    injection hq' with hq'
    subst hq'
    have ex : l[j].1 = x := K.inj _ _ (e1.symm.trans h3)
    have hpx : l[j]? = some (x, l[j].2) := by rw [hp]; congr 1; exact Prod.ext ex rfl
    refine ⟨j, l[j].2, q, ?_, hpx, h2, h3, e2, by rw [h1, e2]⟩
    unfold get
    have : l.find? (fun p => decide (p.1 = x)) = some l[j] := by
      rw [List.find?_eq_some_iff_getElem]
      refine ⟨by simp [ex], j, hl, rfl, fun i hi => ?_⟩
      simp only [Bool.not_eq_eq_eq_not, Bool.not_true, decide_eq_false_iff_not]
      intro e3
      have hi' : i < l.length := by omega
      have h4 : (l.map (·.1))[i]? = (l.map (·.1))[j]? := by
        rw [List.getElem?_map, List.getElem?_map, List.getElem?_eq_getElem hi', hp]
        simp [e3, ex]
      have := (nodup_ne nd) i j hi (by simpa using hl)
      exact this h4
    rw [this]
    rfl

theorem MapObj.lookup (h : MapObj kv vv l es clk) (KD : Keyed P k) (K : KeyVal P k kv ok) (hok : ∀ p ∈ l, ok p.1) (ht : P.underlying t = some (.map k e)) {z : Value} (hz : ∀ u : World, (zeroValue e).run P u = .ok z u) (x : κ) (hx : ok x) (b : Nat) :
    ∀ w : World, w.heap[b]? = some (.map es clk) → (Instr.lookup t (.map (some b)) (kv x) true).run P w = .ok (.tuple #[((get l x).map vv).getD z, .bool (get l x).isSome]) w := by
  intro w hb
  obtain ⟨q, hq⟩ := K.key x hx
  rcases h.find KD K hok x hx w with ⟨h1, _, h2, _⟩ | ⟨i, y, q, h1, _, _, _, _, h2⟩
  · rw [h1]
    simp [Instr.lookup, run_underlying ht, MapKept.run_getObj_map hb, KD.check w _ hq, h2, hz, Result.andThen]
  · obtain ⟨q, hq⟩ := K.key x hx
    rw [h1]
    simp [Instr.lookup, run_underlying ht, MapKept.run_getObj_map hb, KD.check w _ hq, h2, Result.andThen]

/-- The two steps by which an entry is stored, each in whatever world holds the map. -/
theorem MapObj.store (h : MapObj kv vv l es clk) (KD : Keyed P k) (K : KeyVal P k kv ok) (hok : ∀ p ∈ l, ok p.1) (ht : P.underlying t = some (.map k e)) {z : Value} (hz : ∀ u : World, (zeroValue e).run P u = .ok z u) (x : κ) (y : ν) (hx : ok x) (b : Nat) :
    ∃ (v0 : Value) (st : Nat) (es1 : Array MapEntry) (clk1 : Nat) (es2 : Array MapEntry), MapObj kv vv (put l x y) es2 clk1 ∧
      (∀ w : World, w.heap[b]? = some (.map es clk) → (Instr.mapEntry t (.map (some b)) (kv x)).run P w = .ok (.tuple #[v0, goInt st]) (setBlock w b (.map es1 clk1))) ∧
      (∀ w : World, w.heap[b]? = some (.map es1 clk1) → (Instr.entryStore t (.map (some b)) (goInt st) (vv y)).run P w = .ok () (setBlock w b (.map es2 clk1))) := by
  obtain ⟨kl, hkey⟩ := K.key x hx
  obtain ⟨nd, hl, s1, s2⟩ := h
  have h : MapObj kv vv l es clk := ⟨nd, hl, s1, s2⟩
  rcases h.find KD K hok x hx default with ⟨_, hno, _, h2⟩ | ⟨j, y0, e0, _, hj, h2, h3, h4, _⟩
  · refine ⟨z, clk, es.push ⟨kv x, z, clk⟩, clk + 1, es.push ⟨kv x, vv y, clk⟩, ?_, fun w hb => ?_, fun w hb => ?_⟩
    · unfold put
      rw [if_neg hno]
      refine ⟨?_, ?_, ?_, ?_⟩
      · rw [List.map_append]
        refine List.nodup_append.2 ⟨nd, by simp, fun a ha c hc e1 => ?_⟩
        simp only [List.map_cons, List.map_nil, List.mem_singleton] at hc
        subst hc e1
        exact hno ha
      · simp [hl]
      · intro q hq
        simp only [Array.toList_push, List.mem_append, List.mem_singleton] at hq
        rcases hq with hq | rfl
        · have := s1 q hq; omega
        · simp
      · simp only [Array.toList_push, List.map_append, List.map_cons, List.map_nil]
        refine List.nodup_append.2 ⟨s2, by simp, fun a ha c hc e1 => ?_⟩
        simp only [List.mem_singleton] at hc
        obtain ⟨q, hq, rfl⟩ := List.mem_map.1 ha
        have := s1 q hq
        omega
    · rcases h.find KD K hok x hx w with ⟨_, _, hf, _⟩ | ⟨i, y1, q, _, hq, _⟩
      · simp [Instr.mapEntry, run_underlying ht, MapKept.run_getObj_map hb, KD.check w false hkey, hf, hz, MapKept.run_setObj_map _ hb, Result.andThen, setBlock]
      · exact absurd (List.mem_map.2 ⟨_, List.mem_of_getElem? hq, rfl⟩) hno
    · have hidx : (es.push ⟨kv x, z, clk⟩).findIdx? (fun e => ((e.born : Nat) : Int) == ((clk : Nat) : Int)) = some es.size := by
        rw [findIdx_arr]
        have := findIdx_born (l := (es.push ⟨kv x, z, clk⟩).toList) (j := es.size) (e0 := ⟨kv x, z, clk⟩) (by
          simp only [Array.toList_push, List.map_append, List.map_cons, List.map_nil]
          refine List.nodup_append.2 ⟨s2, by simp, fun a ha c hc e1 => ?_⟩
          simp only [List.mem_singleton] at hc
          obtain ⟨q, hq, rfl⟩ := List.mem_map.1 ha
          have := s1 q hq
          omega) (by simp)
        exact this
      have hmod : (es.push ⟨kv x, z, clk⟩).modify es.size (fun e => { e with val := vv y }) = es.push ⟨kv x, vv y, clk⟩ := by
        apply Array.ext'
        rw [Array.toList_modify, Array.toList_push, Array.toList_push, ← Array.length_toList, modify_last]
      simp [Instr.entryStore, MapKept.run_getObj_map hb, asInt, asIntOf, goInt, hidx, hmod, MapKept.run_setObj_map _ hb, Result.andThen, setBlock]
  · have hje : es[j]? = some e0 := by simpa using h2
    have hsame : es.modify j (fun e => { e with key := kv x }) = es := by
      apply Array.ext'
      rw [Array.toList_modify, modify_eq_set _ _ _ _ h2]
      have : ({ e0 with key := kv x } : MapEntry) = e0 := by rw [← h3]
      rw [this]
      exact set_self _ _ _ h2
    have hmem : x ∈ l.map (·.1) := List.mem_map.2 ⟨_, List.mem_of_getElem? hj, rfl⟩
    have hidx : es.findIdx? (fun e => ((e.born : Nat) : Int) == ((e0.born : Nat) : Int)) = some j := by
      rw [findIdx_arr]
      exact findIdx_born s2 h2
    have hm2 : (es.modify j (fun e' => { e' with val := vv y })).toList = es.toList.set j { e0 with val := vv y } := by
      rw [Array.toList_modify, modify_eq_set _ _ _ _ h2]
    have hput : put l x y = l.set j (x, y) := by
      unfold put
      rw [if_pos hmem]
      apply List.ext_getElem?
      intro i
      rw [List.getElem?_map]
      by_cases e1 : j = i
      · subst e1
        rw [hj, List.getElem?_set_self (List.getElem?_eq_some_iff.1 hj).1]
        simp
      · rw [List.getElem?_set_ne e1]
        cases hi : l[i]? with
        | none => rfl
        | some p =>
          have : p.1 ≠ x := by
            intro e2
            have h5 : (l.map (·.1))[j]? = (l.map (·.1))[i]? := by rw [List.getElem?_map, List.getElem?_map, hj, hi]; simp [e2]
            rcases Nat.lt_or_gt_of_ne e1 with hlt | hlt
            · exact (nodup_ne nd) j i hlt (by simpa using (List.getElem?_eq_some_iff.1 hi).1) h5
            · exact (nodup_ne nd) i j hlt (by simpa using (List.getElem?_eq_some_iff.1 hj).1) h5.symm
          simp [this]
    refine ⟨e0.val, e0.born, es, clk, es.modify j (fun e' => { e' with val := vv y }), ?_, fun w hb => ?_, fun w hb => ?_⟩
    · rw [hput]
      refine ⟨?_, ?_, ?_, ?_⟩
      · rw [List.map_set]
        have : (l.map (·.1)).set j x = l.map (·.1) := by
          apply set_self
          rw [List.getElem?_map, hj]
          rfl
        rw [this]
        exact nd
      · rw [hm2, List.map_set, List.map_set, hl]
        simp [h3]
      · intro q hq
        rw [hm2] at hq
        rcases List.mem_or_eq_of_mem_set hq with hq | rfl
        · exact s1 q hq
        · exact s1 e0 (List.mem_of_getElem? h2)
      · rw [hm2, List.map_set]
        have : (es.toList.map (·.born)).set j e0.born = es.toList.map (·.born) := by
          apply set_self
          rw [List.getElem?_map, h2]
          rfl
        rw [this]
        exact s2
    · rcases h.find KD K hok x hx w with ⟨_, hn, _⟩ | ⟨i, y1, q, _, hq, hq2, hq3, hq4, hf⟩
      · exact absurd hmem hn
      · have hij : i = j := by
          by_cases e1 : i = j
          · exact e1
          · have h5 : (l.map (·.1))[j]? = (l.map (·.1))[i]? := by rw [List.getElem?_map, List.getElem?_map, hj, hq]; simp
            rcases Nat.lt_or_gt_of_ne e1 with hlt | hlt
            · exact absurd h5.symm ((nodup_ne nd) i j hlt (by simpa using (List.getElem?_eq_some_iff.1 hj).1))
            · exact absurd h5 ((nodup_ne nd) j i hlt (by simpa using (List.getElem?_eq_some_iff.1 hq).1))
        subst hij
        rw [h2] at hq2
        injection hq2 with hq2
        subst hq2
        simp [Instr.mapEntry, run_underlying ht, MapKept.run_getObj_map hb, KD.check w false hkey, hf, hje, h3, KD.stays w hkey, hsame, MapKept.run_setObj_map _ hb, Result.andThen, setBlock, hq4]
    · simp [Instr.entryStore, MapKept.run_getObj_map hb, asInt, asIntOf, goInt, hidx, MapKept.run_setObj_map _ hb, Result.andThen, setBlock]
end
end Go.Proofs.Ytgehdkbjcpdjoaa
