/- The walk of circuit.Check; no condition. -/
import Derived.Test.YtgehdkbjcpdjoaaWk
import Derived.Test.YtgehdkbjcpdjoaaMp
import Derived.Test.YtgehdkbjcpdjoaaUp
import Derived.BigRegion
import Derived.RegionTactic
import Derived.Deep.RegionHeld3
namespace Go.Proofs.Ytgehdkbjcpdjoaa
open Go.RowKit
set_option linter.unusedVariables false
set_option linter.unusedSimpArgs false

structure Key where
  ch : Int
  id : Int
deriving DecidableEq
structure Leg where
  key : Key
  amt : Int
  exp : Int
def Leg.val (x : Leg) : Value := .agg #[.int .u32 x.key.ch, .int .u64 x.key.id, .int .u64 x.amt, .int .i64 x.exp]
def Leg.cells (x : Leg) : Array Value := #[.int .u32 x.key.ch, .int .u64 x.key.id, .int .u64 x.amt, .int .i64 x.exp]
structure Leg.ok (x : Leg) : Prop where
  c0 : 0 ≤ x.key.ch
  c1 : x.key.ch < 4294967296
  i0 : 0 ≤ x.key.id
  i1 : x.key.id < 18446744073709551616
  a0 : 0 ≤ x.amt
  a1 : x.amt < 18446744073709551616
  e0 : -9223372036854775808 ≤ x.exp
  e1 : x.exp ≤ 9223372036854775807

/-- What Check answers. -/
def chk (base rate : Int) (i o : Leg) : Int :=
  if i.amt = 0 ∨ o.amt = 0 ∨ i.key.ch = o.key.ch then 1 else if enough i.amt o.amt base rate = false then 150 else if o.exp ≤ 0 ∨ i.exp < o.exp ∨ i.exp - o.exp < 6 then 151 else 0

set_option maxHeartbeats 4000000 in
theorem check_any (g : Nat) (base rate : Int) (i o : Leg) (w : World) (hi : i.ok) (ho : o.ok) (b0 : 0 ≤ base) (b1 : base < 18446744073709551616) (r0 : 0 ≤ rate) (r1 : rate < 18446744073709551616)
    (hg0 : w.cell? ⟨g, 0, none⟩ = some (.int .u64 base)) (hg1 : w.cell? ⟨g, 1, none⟩ = some (.int .u64 rate)) :
    Calls Try.prog 8 #[.pointer (some ⟨g, 0, none⟩), i.val, o.val] w fun e w' => e = .returned (.int .i64 (chk base rate i o)) ∧ Below w.heap.size w w' := by
  obtain ⟨⟨ic, ii⟩, ia, ie⟩ := i
  obtain ⟨⟨oc, oi⟩, oa, oe⟩ := o
  obtain ⟨ic0, ic1, ii0, ii1, ia0, ia1, ie0, ie1⟩ := hi
  obtain ⟨oc0, oc1, oi0, oi1, oa0, oa1, oe0, oe1⟩ := ho
  simp only at *
  have hlt := World.block_lt_of_cell? _ _ hg0
  unfold Leg.val chk
  simp only
  by_cases h1 : ia = 0 ∨ oa = 0 ∨ ic = oc
  · rw [if_pos h1]
    have HG := Lib.hid (And.intro hg0 hg1)
    clear hg0 hg1
    rcases h1 with rfl | h1
    · go_enter Try.func8, Try.ntmps8
      go_wp2
      go_ret
      exact ⟨rfl, ((Below.refl _ _).alloc (Nat.le_refl _) _).alloc (by simp) _⟩
    · by_cases h0 : ia = 0
      · subst h0
        go_enter Try.func8, Try.ntmps8
        go_wp2
        go_ret
        exact ⟨rfl, ((Below.refl _ _).alloc (Nat.le_refl _) _).alloc (by simp) _⟩
      · have h0' : (ia == 0) = false := by simp [h0]
        rcases h1 with rfl | rfl
        · go_enter Try.func8, Try.ntmps8
          go_wp2
          go_ret
          exact ⟨rfl, ((Below.refl _ _).alloc (Nat.le_refl _) _).alloc (by simp) _⟩
        · by_cases h2 : oa = 0
          · subst h2
            go_enter Try.func8, Try.ntmps8
            go_wp2
            go_ret
            exact ⟨rfl, ((Below.refl _ _).alloc (Nat.le_refl _) _).alloc (by simp) _⟩
          · have h2' : (oa == 0) = false := by simp [h2]
            go_enter Try.func8, Try.ntmps8
            go_wp2
            go_ret
            exact ⟨rfl, ((Below.refl _ _).alloc (Nat.le_refl _) _).alloc (by simp) _⟩
  · rw [if_neg h1]
    have h0' : (ia == 0) = false := by simp; omega
    have h2' : (oa == 0) = false := by simp; omega
    have h3' : (ic == oc) = false := by simp; omega
    have hen := fun W => enough_any ia oa base rate ia0 ia1 oa0 oa1 b0 b1 r0 r1 W
    have HEN := Lib.hid hen
    clear h1 hen
    obtain ⟨R, hR⟩ : ∃ R : Int, R = (if enough ia oa base rate = false then 150 else if oe ≤ 0 ∨ ie < oe ∨ ie - oe < 6 then 151 else 0) := ⟨_, rfl⟩
    rw [← hR]
    generalize enough ia oa base rate = en at *
    have HR := Lib.hid hR
    clear hR
    go_enter Try.func8, Try.ntmps8
    go_wp2_with fail
    have hb2 : Below w.heap.size w ((w.alloc (.cells #[.int .u32 ic, .int .u64 ii, .int .u64 ia, .int .i64 ie] 27)).alloc (.cells #[.int .u32 oc, .int .u64 oi, .int .u64 oa, .int .i64 oe] 27)) := ((Below.refl _ _).alloc (Nat.le_refl _) _).alloc (by simp) _
    have g0 := Bcell hb2 hg0
    have g1 := Bcell hb2 hg1
    have x2 : ((w.alloc (.cells #[.int .u32 ic, .int .u64 ii, .int .u64 ia, .int .i64 ie] 27)).alloc (.cells #[.int .u32 oc, .int .u64 oi, .int .u64 oa, .int .i64 oe] 27)).cell? ⟨w.heap.size, 2, none⟩ = some (.int .u64 ia) := by go_simp
    have x3 : ((w.alloc (.cells #[.int .u32 ic, .int .u64 ii, .int .u64 ia, .int .i64 ie] 27)).alloc (.cells #[.int .u32 oc, .int .u64 oi, .int .u64 oa, .int .i64 oe] 27)).cell? ⟨w.heap.size, 3, none⟩ = some (.int .i64 ie) := by go_simp
    have y2 : ((w.alloc (.cells #[.int .u32 ic, .int .u64 ii, .int .u64 ia, .int .i64 ie] 27)).alloc (.cells #[.int .u32 oc, .int .u64 oi, .int .u64 oa, .int .i64 oe] 27)).cell? ⟨w.heap.size + 1, 2, none⟩ = some (.int .u64 oa) := by go_simp
    have y3 : ((w.alloc (.cells #[.int .u32 ic, .int .u64 ii, .int .u64 ia, .int .i64 ie] 27)).alloc (.cells #[.int .u32 oc, .int .u64 oi, .int .u64 oa, .int .i64 oe] 27)).cell? ⟨w.heap.size + 1, 3, none⟩ = some (.int .i64 oe) := by go_simp
    have HB2 := Lib.hid hb2
    clear hb2 hg0 hg1
    generalize (w.alloc (.cells #[.int .u32 ic, .int .u64 ii, .int .u64 ia, .int .i64 ie] 27)).alloc (.cells #[.int .u32 oc, .int .u64 oi, .int .u64 oa, .int .i64 oe] 27) = w2 at *
    have HS : w2.drew.cell? ⟨g, 0, none⟩ = some (.int .u64 base) ∧ w2.drew.cell? ⟨g, 1, none⟩ = some (.int .u64 rate) ∧ w2.drew.cell? ⟨w.heap.size, 2, none⟩ = some (.int .u64 ia) ∧ w2.drew.cell? ⟨w.heap.size, 3, none⟩ = some (.int .i64 ie) ∧ w2.drew.cell? ⟨w.heap.size + 1, 2, none⟩ = some (.int .u64 oa) ∧ w2.drew.cell? ⟨w.heap.size + 1, 3, none⟩ = some (.int .i64 oe) ∧ Hid (Below w.heap.size w w2.drew) :=
      ⟨g0, g1, x2, x3, y2, y3, Lib.hid HB2.out.drew⟩
    clear g0 g1 x2 x3 y2 y3 HB2
    go_region_held3 (fun W => W.cell? ⟨g, 0, none⟩ = some (.int .u64 base) ∧ W.cell? ⟨g, 1, none⟩ = some (.int .u64 rate) ∧ W.cell? ⟨w.heap.size, 2, none⟩ = some (.int .u64 ia) ∧ W.cell? ⟨w.heap.size, 3, none⟩ = some (.int .i64 ie) ∧ W.cell? ⟨w.heap.size + 1, 2, none⟩ = some (.int .u64 oa) ∧ W.cell? ⟨w.heap.size + 1, 3, none⟩ = some (.int .i64 oe) ∧ Hid (Below w.heap.size w W)) (with_reducible assumption)
      (first | (go_at_call 9; have hh := ‹_ ∧ _ ∧ _ ∧ _ ∧ _ ∧ _ ∧ Hid (Below w.heap.size w _)›; refine (HEN.out _).mono ?_; rintro e w3 ⟨rfl, hb3⟩; have HW : w3.cell? ⟨g, 0, none⟩ = some (.int .u64 base) ∧ w3.cell? ⟨g, 1, none⟩ = some (.int .u64 rate) ∧ w3.cell? ⟨w.heap.size, 2, none⟩ = some (.int .u64 ia) ∧ w3.cell? ⟨w.heap.size, 3, none⟩ = some (.int .i64 ie) ∧ w3.cell? ⟨w.heap.size + 1, 2, none⟩ = some (.int .u64 oa) ∧ w3.cell? ⟨w.heap.size + 1, 3, none⟩ = some (.int .i64 oe) ∧ Hid (Below w.heap.size w w3) := ⟨Bcell hb3 hh.1, Bcell hb3 hh.2.1, Bcell hb3 hh.2.2.1, Bcell hb3 hh.2.2.2.1, Bcell hb3 hh.2.2.2.2.1, Bcell hb3 hh.2.2.2.2.2.1, Lib.hid (hh.2.2.2.2.2.2.out.trans (hb3.mono hh.2.2.2.2.2.2.out.size))⟩; clear hb3))
    clear HS
    obtain ⟨_, _, _, x3, _, y3, HB3⟩ := HW
    have hl1 := World.block_lt_of_cell? _ _ x3
    have hl2 := World.block_lt_of_cell? _ _ y3
    cases en with
    | false =>
      go_wp2
      go_ret
      have e := HR.out; simp at e; exact ⟨congrArg (fun z => Ending.returned (Value.int .i64 z)) e.symm, HB3.out⟩
    | true =>
      by_cases h6 : oe ≤ 0
      · go_wp2
        go_ret
        have e := HR.out; rw [if_neg (by simp), if_pos (.inl h6)] at e; exact ⟨congrArg (fun z => Ending.returned (Value.int .i64 z)) e.symm, HB3.out⟩
      · by_cases h7 : ie < oe
        · go_wp2
          go_ret
          have e := HR.out; rw [if_neg (by simp), if_pos (.inr (.inl h7))] at e; exact ⟨congrArg (fun z => Ending.returned (Value.int .i64 z)) e.symm, HB3.out⟩
        · have h9 : 0 ≤ ie - oe := by omega
          by_cases h8 : ie - oe < 6
          · go_wp2
            go_ret
            have e := HR.out; rw [if_neg (by simp), if_pos (.inr (.inr h8))] at e; exact ⟨congrArg (fun z => Ending.returned (Value.int .i64 z)) e.symm, HB3.out⟩
          · go_wp2
            go_ret
            have e := HR.out; rw [if_neg (by simp), if_neg (by omega)] at e; exact ⟨congrArg (fun z => Ending.returned (Value.int .i64 z)) e.symm, HB3.out⟩
end Go.Proofs.Ytgehdkbjcpdjoaa
