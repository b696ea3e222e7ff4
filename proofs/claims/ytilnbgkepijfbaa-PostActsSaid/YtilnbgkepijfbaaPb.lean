/- The walks of box.take, Len, Room; no condition. -/
import Derived.Test.YtilnbgkepijfbaaPa
namespace Go.Proofs.Ytilnbgkepijfbaa
open Go.RowKit
set_option linter.unusedVariables false
set_option linter.unusedSimpArgs false

def TakePost (rb o h : Nat) (x : Letter) (l : List Letter) (cs : Array Value) (w : World) (e : Ending) (w' : World) : Prop :=
  e = .returned x.val ∧ Blk w' rb 76 (takeC cs o h l.length) ∧ w.grownBy w' (some rb)

set_option maxHeartbeats 4000000 in
theorem take_any (rb o h : Nat) (x : Letter) (l : List Letter) (c : Bool) (cs : Array Value) (w : World) (hb : Blk w rb 76 cs) (hx : BoxAt cs o h ⟨x :: l, c⟩) :
    Calls Try.prog 25 #[.pointer (some ⟨rb, o, none⟩)] w (TakePost rb o h x l cs w) := by
  have hm8 : l.length + 1 ≤ 8 := hx.len
  have hh := hx.hh
  have hq := hx.put 0 x rfl
  rw [Nat.add_zero, Nat.mod_eq_of_lt hh] at hq
  obtain ⟨q0, q1, q2, q3⟩ := hq
  have ch : w.cell? ⟨rb, o + 32, none⟩ = some (.int .i64 h) := (hb.cell _).trans hx.head
  have cm : w.cell? ⟨rb, o + 33, none⟩ = some (.int .i64 ((l.length : Int) + 1)) := ((hb.cell _).trans hx.many).trans (by simp)
  have c0 : w.cell? ⟨rb, o + h * 4, none⟩ = some (.int .i64 x.to) := (hb.cell _).trans q0
  have c1 : w.cell? ⟨rb, o + h * 4 + 1, none⟩ = some (.int .i64 x.frm) := (hb.cell _).trans q1
  have c2 : w.cell? ⟨rb, o + h * 4 + 2, none⟩ = some (.int .i64 x.kind) := (hb.cell _).trans q2
  have c3 : w.cell? ⟨rb, o + h * 4 + 3, none⟩ = some (.string x.text) := (hb.cell _).trans q3
  have fz : ∀ j, w.frozen? ⟨rb, j, none⟩ = false := fun j => hb.free j
  have hlt := hb.lt
  have h0 : (0 : Int) ≤ (h : Int) := by omega
  have h1 : (h : Int) < 8 := by omega
  have HB := Lib.hid hb
  clear q0 q1 q2 q3 hx hb
  go_enter Try.func25, Try.ntmps25
  go_wp2
  go_region
  go_wp2
  go_region
  go_wp2
  go_region
  go_wp2
  refine bodyPost_ret (v := x.val) (by simp [results, Try.results25, go_sem, Letter.val]) rfl ⟨rfl, ?_, ?_⟩
  · have e1 : ((((h + 1) % 8 : Nat) : Int)) = ((h : Int) + 1) % 8 := by omega
    have e2 : ((l.length : Nat) : Int) = (l.length : Int) + 1 - 1 := by omega
    unfold takeC setLetter
    rw [e1]
    rw [e2]
    exact ((((((HB.out.set _ _).set _ _).set _ _).set _ _).set _ _).set _ _).alloc _ |>.alloc _
  · exact only_drew (only_drew (only_drew (only_alloc (only_alloc (only_set (only_set (only_set (only_set (only_set (only_set (only_refl _ _) _ _) _ _) _ _) _ _) _ _) _ _) _) _)))
end Go.Proofs.Ytilnbgkepijfbaa
