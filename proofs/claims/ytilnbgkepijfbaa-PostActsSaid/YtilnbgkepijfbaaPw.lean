/- What the walk of PostActs is told of a slice of acts that came in; no condition. -/
import Derived.Test.YtilnbgkepijfbaaPu
import Derived.Deep.Fields
import Derived.ProofKit
import Derived.OpenShut
namespace Go.Proofs.Ytilnbgkepijfbaa
open Go.ChangeShapes Go.WideShapes Go.ChangeAt Go.RowKit Go.Deep
set_option linter.unusedVariables false
variable {H : Type} {enc : TypeId × Value → H}

theorem fields49 : ∃ f0 f1, Try.prog.underlying 49 = some (.struct #[f0, f1]) ∧ f0.offset = 0 ∧ f0.type = 3 ∧ f1.offset = 1 ∧ f1.type = 33 := ⟨_, _, Try.underlying49, rfl, rfl, rfl, rfl⟩
theorem fields33 : ∃ f0 f1 f2 f3, Try.prog.underlying 33 = some (.struct #[f0, f1, f2, f3]) ∧ f0.offset = 0 ∧ f0.type = 3 ∧ f1.offset = 1 ∧ f1.type = 3 ∧ f2.offset = 2 ∧ f2.type = 3 ∧ f3.offset = 3 ∧ f3.type = 9 := ⟨_, _, _, _, Try.underlying33, rfl, rfl, rfl, rfl, rfl, rfl, rfl, rfl⟩

theorem act_in {w : World} {n : Nat} {cs : List Value} {x : DataW H × List MemPlace} (h : DataW.trod enc Try.prog w 0 (fun _ => true) true n 49 cs = some x) :
    ∃ (k : Int) (y : Letter), cs = [.int .i64 k, .int .i64 y.to, .int .i64 y.frm, .int .i64 y.kind, .string y.text] ∧ y.text.size ≤ maxLen := by
  obtain ⟨f0, f1, hu, o0, t0, o1, t1⟩ := fields49
  obtain ⟨xs, n1, _, _, hl, hlen, hf⟩ := DataW.trod_struct hu h
  have hc : Try.prog.cellsOf 49 = 5 := by kernel_rfl
  have hc3 : Try.prog.cellsOf 3 = 1 := by kernel_rfl
  have hc33 : Try.prog.cellsOf 33 = 4 := by kernel_rfl
  have hc9 : Try.prog.cellsOf 9 = 1 := by kernel_rfl
  rw [hc] at hl
  match cs, hl, xs, hlen with
  | [c0, c1, c2, c3, c4], _, [y0, y1], _ =>
    have h0 := hf 0 f0 rfl
    have h1 := hf 1 f1 rfl
    rw [o0, t0, hc3] at h0
    rw [o1, t1, hc33] at h1
    simp at h0 h1
    obtain ⟨k, e0, _, _⟩ := DataW.trod_int Try.underlying3 h0
    obtain ⟨g0, g1, g2, g3, hu3, p0, u0, p1, u1, p2, u2, p3, u3⟩ := fields33
    obtain ⟨xs, n2, _, _, _, hlen, hg⟩ := DataW.trod_struct hu3 h1
    match xs, hlen with
    | [z0, z1, z2, z3], _ =>
      have q0 := hg 0 g0 rfl
      have q1 := hg 1 g1 rfl
      have q2 := hg 2 g2 rfl
      have q3 := hg 3 g3 rfl
      rw [p0, u0, hc3] at q0
      rw [p1, u1, hc3] at q1
      rw [p2, u2, hc3] at q2
      rw [p3, u3, hc9] at q3
      simp at q0 q1 q2 q3
      obtain ⟨a, e1, _, _⟩ := DataW.trod_int Try.underlying3 q0
      obtain ⟨b, e2, _, _⟩ := DataW.trod_int Try.underlying3 q1
      obtain ⟨c, e3, _, _⟩ := DataW.trod_int Try.underlying3 q2
      obtain ⟨s, e4, _, hs⟩ := DataW.trod_string Try.underlying9 q3
      simp at e0 e1 e2 e3 e4
      subst e0 e1 e2 e3 e4
      exact ⟨k, ⟨a, b, c, s⟩, rfl, hs⟩

theorem acts_in {w : World} {a : Option Addr} {len cap : Nat} {d : DataW H} {p : List MemPlace} (h : DataW.Trod enc Try.prog w 0 (fun _ => true) true 44 (.slice a len cap) d p) :
    len ≤ cap ∧ cap ≤ maxLen ∧ ∃ f, IsActs w a len f := by
  obtain ⟨fuel, hf⟩ := h
  have hc : Try.prog.cellsOf 49 = 5 := by kernel_rfl
  rcases open_slice Try.underlying44 hf with ⟨hcs, _⟩ | ⟨x, l, c, m, n, D, Pl, hcs, _, hl, hm, hmm, _, hi⟩
  · simp [Value.cells] at hcs
    obtain ⟨rfl, rfl, rfl⟩ := hcs
    exact ⟨Nat.le_refl _, Nat.zero_le _, fun _ => (0, Letter.zero), fun i hi => absurd hi (by omega)⟩
  · simp [Value.cells] at hcs
    obtain ⟨rfl, rfl, rfl⟩ := hcs
    simp at hmm
    subst hmm
    refine ⟨hl, hm, ?_⟩
    have hall : ∀ i, ∃ ky : Int × Letter, i < len → (w.cells? 0 (x.add (i * 5)) 5 = some [.int .i64 ky.1, .int .i64 ky.2.to, .int .i64 ky.2.frm, .int .i64 ky.2.kind, .string ky.2.text] ∧ ky.2.text.size ≤ maxLen) := by
      intro i
      by_cases h : i < len
      · obtain ⟨cs', h1, h2⟩ := hi i (by omega)
        obtain ⟨k, y, rfl, hy⟩ := act_in h2
        rw [hc] at h1
        exact ⟨(k, y), fun _ => ⟨h1, hy⟩⟩
      · exact ⟨(0, Letter.zero), fun h' => absurd h' h⟩
    refine ⟨fun i => (hall i).choose, fun i h => ?_⟩
    dsimp only
    obtain ⟨h1, h2⟩ := (hall i).choose_spec h
    obtain ⟨h01, _⟩ := (hall 0).choose_spec (by omega)
    have hx0 := (World.cells?_some h01).2.2 0 (by omega)
    generalize (hall i).choose = ky at *
    obtain ⟨_, _, hat⟩ := World.cells?_some h1
    have a0 := hat 0 (by omega)
    have a1 := hat 1 (by omega)
    have a2 := hat 2 (by omega)
    have a3 := hat 3 (by omega)
    have a4 := hat 4 (by omega)
    obtain ⟨b, off, spot⟩ := x
    have hspot : spot = none := by
      have := World.cell?_spot hx0
      simpa [Addr.add] using this
    subst hspot
    simp only [Go.WideShapes.add_plain] at a0 a1 a2 a3 a4
    refine ⟨b, off, rfl, World.block_lt_of_cell? w _ a0, ?_, ?_, ?_, ?_, ?_, h2⟩
    · simpa using a0
    · simpa using a1
    · simpa [Nat.add_assoc] using a2
    · simpa [Nat.add_assoc] using a3
    · simpa [Nat.add_assoc] using a4
end Go.Proofs.Ytilnbgkepijfbaa
