/- What the walk of CircuitTwice is told of a circuit that came in; no condition. -/
import Derived.Test.YtgehdkbjcpdjoaaOp
import Derived.ProofKit
import Derived.OpenShut
import Derived.Deep.Fields
namespace Go.Proofs.Ytgehdkbjcpdjoaa
open Go.ChangeShapes Go.WideShapes Go.ChangeAt Go.RowKit Go.Deep
set_option linter.unusedVariables false
variable {H : Type} {enc : TypeId × Value → H}

theorem fields31 : ∃ f0 f1 f2, Try.prog.underlying 31 = some (.struct #[f0, f1, f2]) ∧ f0.offset = 0 ∧ f0.type = 27 ∧ f1.offset = 4 ∧ f1.type = 27 ∧ f2.offset = 8 ∧ f2.type = 29 := ⟨_, _, _, Try.underlying31, rfl, rfl, rfl, rfl, rfl, rfl⟩
theorem fields27 : ∃ f0 f1 f2, Try.prog.underlying 27 = some (.struct #[f0, f1, f2]) ∧ f0.offset = 0 ∧ f0.type = 25 ∧ f1.offset = 2 ∧ f1.type = 23 ∧ f2.offset = 3 ∧ f2.type = 3 := ⟨_, _, _, Try.underlying27, rfl, rfl, rfl, rfl, rfl, rfl⟩
theorem fields25 : ∃ f0 f1, Try.prog.underlying 25 = some (.struct #[f0, f1]) ∧ f0.offset = 0 ∧ f0.type = 22 ∧ f1.offset = 1 ∧ f1.type = 23 := ⟨_, _, Try.underlying25, rfl, rfl, rfl, rfl⟩

theorem leg_in {w : World} {n : Nat} {cs : List Value} {x : DataW H × List MemPlace} (h : DataW.trod enc Try.prog w 0 (fun _ => true) true n 27 cs = some x) :
    ∃ y : Leg, cs = y.cells.toList ∧ y.ok := by
  obtain ⟨f0, f1, f2, hu, o0, t0, o1, t1, o2, t2⟩ := fields27
  obtain ⟨xs, n1, _, _, hl, hlen, hf⟩ := DataW.trod_struct hu h
  have hc : Try.prog.cellsOf 27 = 4 := by kernel_rfl
  have hc3 : Try.prog.cellsOf 3 = 1 := by kernel_rfl
  have hc25 : Try.prog.cellsOf 25 = 2 := by kernel_rfl
  have hc23 : Try.prog.cellsOf 23 = 1 := by kernel_rfl
  have hc22 : Try.prog.cellsOf 22 = 1 := by kernel_rfl
  rw [hc] at hl
  match cs, hl, xs, hlen with
  | [c0, c1, c2, c3], _, [y0, y1, y2], _ =>
    have h0 := hf 0 f0 rfl
    have h1 := hf 1 f1 rfl
    have h2 := hf 2 f2 rfl
    rw [o0, t0, hc25] at h0
    rw [o1, t1, hc23] at h1
    rw [o2, t2, hc3] at h2
    simp at h0 h1 h2
    obtain ⟨a, e2, _, w2⟩ := DataW.trod_int Try.underlying23 h1
    obtain ⟨b, e3, _, w3⟩ := DataW.trod_int Try.underlying3 h2
    obtain ⟨g0, g1, hu2, p0, u0, p1, u1⟩ := fields25
    obtain ⟨xs, n2, _, _, _, hlen, hg⟩ := DataW.trod_struct hu2 h0
    match xs, hlen with
    | [z0, z1], _ =>
      have q0 := hg 0 g0 rfl
      have q1 := hg 1 g1 rfl
      rw [p0, u0, hc22] at q0
      rw [p1, u1, hc23] at q1
      simp at q0 q1
      obtain ⟨c, e0, _, w0⟩ := DataW.trod_int Try.underlying22 q0
      obtain ⟨d, e1, _, w1⟩ := DataW.trod_int Try.underlying23 q1
      simp at e0 e1 e2 e3
      subst e0 e1 e2 e3
      simp [Lit.wf, show IntKind.u32.min = 0 from rfl, show IntKind.u32.max = 4294967295 from rfl, show IntKind.u64.min = 0 from rfl, show IntKind.u64.max = 18446744073709551615 from rfl, show IntKind.i64.min = -9223372036854775808 from rfl, show IntKind.i64.max = 9223372036854775807 from rfl] at w0 w1 w2 w3
      exact ⟨⟨⟨c, d⟩, a, b⟩, rfl, ⟨w0.1, by show c < _; omega, w1.1, by show d < _; omega, w2.1, by show a < _; omega, w3.1, w3.2⟩⟩

theorem circ_in {w : World} {v : Value} {d : DataW H} {p : List MemPlace} (hv : Value.okWide Try.prog w .any 0 31 v) (h : DataW.Trod enc Try.prog w 0 (fun _ => true) true 31 v d p) : ∃ c : Circ, v = c.val ∧ c.ok := by
  obtain ⟨f0, f1, f2, hu, o0, t0, o1, t1, o2, t2⟩ := fields31
  obtain ⟨cs, rfl, hsz⟩ := okWide_struct hu hv
  obtain ⟨fuel, hf⟩ := h
  obtain ⟨cs⟩ := cs
  obtain ⟨xs, n1, _, _, hl, hlen, hg⟩ := DataW.trod_struct hu hf
  have hc : Try.prog.cellsOf 31 = 40 := by kernel_rfl
  have hc27 : Try.prog.cellsOf 27 = 4 := by kernel_rfl
  have hc29 : Try.prog.cellsOf 29 = 32 := by kernel_rfl
  have hc5 : Try.prog.cellsOf 5 = 1 := by kernel_rfl
  rw [hc] at hsz
  have hsz' : cs.length = 40 := by simpa using hsz
  have hcl : (Value.agg ⟨cs⟩).cells.toList = cs := rfl
  rw [hcl] at hg
  match xs, hlen with
  | [y0, y1, y2], _ =>
    have h0 := hg 0 f0 rfl
    have h1 := hg 1 f1 rfl
    have h2 := hg 2 f2 rfl
    rw [o0, t0, hc27] at h0
    rw [o1, t1, hc27] at h1
    rw [o2, t2, hc29] at h2
    simp at h0 h1 h2
    obtain ⟨a, ea, oka⟩ := leg_in h0
    obtain ⟨b, eb, okb⟩ := leg_in h1
    have hh : (cs.drop 8).take 32 = cs.drop 8 := List.take_of_length_le (by simp [hsz'])
    rw [hh] at h2
    obtain ⟨zs, m, _, _, _, _, hz⟩ := DataW.trod_array Try.underlying29 h2
    have hones : ∀ v ∈ cs.drop 8, v.oneCell' = true := by
      intro v hv
      obtain ⟨i, hi⟩ := List.mem_iff_getElem?.1 hv
      have hil : i < 32 := by have := (List.getElem?_eq_some_iff.1 hi).1; simp [hsz'] at this; omega
      have h3 := hz i hil
      rw [hc5] at h3
      have h4 : ((cs.drop 8).drop (i * 1)).take 1 = [v] := by
        rw [Nat.mul_one, List.drop_eq_getElem_cons (by simp [hsz']; omega)]
        have := (List.getElem?_eq_some_iff.1 hi).2
        simp [← this]
      rw [h4] at h3
      cases hzi : zs[i]? with
      | none => rw [hzi] at h3; obtain ⟨hz1, hz2⟩ := List.getElem?_eq_none_iff.1 hzi, ‹_›; omega
      | some z =>
        rw [hzi] at h3
        obtain ⟨q, e, _, _⟩ := DataW.trod_int Try.underlying5 h3
        simp at e
        rw [e]; rfl
    refine ⟨⟨a, b, cs.drop 8⟩, ?_, ⟨oka, okb, by simp [hsz'], hones⟩⟩
    show Value.agg ⟨cs⟩ = Value.agg (List.toArray (_ ++ cs.drop 8))
    congr 1
    have e : cs = cs.take 4 ++ ((cs.drop 4).take 4 ++ cs.drop 8) := by
      have e1 : cs.drop 8 = (cs.drop 4).drop 4 := by simp
      rw [e1, List.take_append_drop, List.take_append_drop]
    have e2 : cs = a.cells.toList ++ (b.cells.toList ++ cs.drop 8) := by rw [← ea, ← eb]; exact e
    exact congrArg List.toArray e2
end Go.Proofs.Ytgehdkbjcpdjoaa
