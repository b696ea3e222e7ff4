/- The walks of circuit.New, relay.New and node.New; no condition. -/
import Derived.Test.YtgehdkbjcpdjoaaDoorTo
namespace Go.Proofs.YtgehdkbjcpdjoaaDoor
open Go.RowKit
set_option linter.unusedVariables false
set_option linter.unusedSimpArgs false

theorem circ_new (a b : Int) (w : World) : Calls Tryd.prog 18 #[.int .u64 a, .int .u64 b] w fun e w' => (∃ c, e = .returned (.pointer (some ⟨c, 0, none⟩))) ∧ Below w.heap.size w w' := by
  have hmm := @run_makeMap Tryd.prog
  go_enter Tryd.func18, Tryd.ntmps18
  go_wp2
  go_ret
  exact ⟨⟨_, rfl⟩, (((Below.refl _ _).alloc (Nat.le_refl _) _).alloc (by simp) _).alloc (by simp; omega) _⟩

theorem relay_new (a b : Int) (w : World) : Calls Tryd.prog 9 #[.int .u64 a, .int .u64 b] w fun e w' => ∃ r, e = .returned (.pointer (some ⟨r, 0, none⟩)) ∧ RelAt w' r w.heap.size [] ∧ Below w.heap.size w w' := by
  have hmm := @run_makeMap Tryd.prog
  go_enter Tryd.func9, Tryd.ntmps9
  go_wp2_with fail
  refine (circ_new a b w).mono ?_
  rintro e W ⟨⟨c, rfl⟩, hb⟩
  have HB := Lib.hid hb
  clear hb
  go_wp2
  go_ret
  have hs := HB.out.size
  refine ⟨_, rfl, ⟨⟨none, 0, _, _, _, _, _, Blk.new _ _ _ _ (by simp), World.ownsRow_nil _ _ _ _⟩, by simp, by simp, ?_⟩, ?_⟩
  · omega
  · exact ((((((HB.out.alloc hs _).alloc (by simp; omega) _).alloc (by simp; omega) _).alloc (by simp; omega) _)).alloc (by simp; omega) _)

theorem node_new (funds : Int) (h0 : 0 ≤ funds) (h1 : funds ≤ 1125899906842624) (w : World) : Calls Tryd.prog 4 #[.int .u64 funds, .int .u64 0, .int .u64 0] w fun e w' => ∃ g r, e = .returned (.pointer (some ⟨g, 0, none⟩)) ∧ NodeAt w' g r w.heap.size funds [] ∧ Below w.heap.size w w' := by
  go_enter Tryd.func4, Tryd.ntmps4
  go_wp2_with fail
  refine (relay_new 0 0 w).mono ?_
  rintro e W ⟨r, rfl, hr, hb⟩
  have HB := Lib.hid hb
  have HR := Lib.hid hr
  clear hb hr
  go_wp2
  go_ret
  have hs := HB.out.size
  have hba := (Below.refl W.heap.size W).alloc (Nat.le_refl _) (.cells #[.pointer (some ⟨r, 0, none⟩), .int .u64 funds, .slice none 0 0, .bool false] 40)
  exact ⟨W.heap.size, r, rfl, ⟨⟨none, 0, Blk.new W _ 40 _ rfl, World.ownsRow_nil _ _ _ _⟩, HR.out.quiet hba, hs⟩, HB.out.trans (hba.mono hs)⟩
theorem node_not (funds : Int) (h1 : 1125899906842624 < funds) (w : World) : Calls Tryd.prog 4 #[.int .u64 funds, .int .u64 0, .int .u64 0] w fun e w' => e = .returned (.pointer none) ∧ w' = w := by
  go_enter Tryd.func4, Tryd.ntmps4
  go_wp2
  go_ret
  exact ⟨rfl, rfl⟩
end Go.Proofs.YtgehdkbjcpdjoaaDoor
