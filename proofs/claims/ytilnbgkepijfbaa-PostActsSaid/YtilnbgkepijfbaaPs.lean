/- The walk of the reference's Send (its refusals), and Take in one sentence; no condition. -/
import Derived.Test.YtilnbgkepijfbaaPr
namespace Go.Proofs.Ytilnbgkepijfbaa
open Go.RowKit
set_option linter.unusedVariables false
set_option linter.unusedSimpArgs false

theorem rtake_any (rb : Nat → Prop) (r cap : Nat) (bs : List Bx) (k : Int) (w : World) (h : RefAt w rb r cap bs) (hrb : ∀ x, rb x → x < w.heap.size) :
    Calls Try.prog 17 #[.slice (some ⟨r, 0, none⟩) bs.length cap, .int .i64 k] w (RTook rb bs.length (takeE bs k) (takeV bs k) (takeS bs k) w) := by
  unfold takeS takeE takeV
  cases hk : boxOf bs k with
  | none => exact rtake_none rb r cap bs k w h hk
  | some b =>
    obtain ⟨j, rfl, hlt, hbj⟩ := boxOf_some hk
    obtain ⟨bl, bc⟩ := b
    simp only [Int.toNat_natCast]
    cases bl with
    | nil => exact rtake_empty rb r cap bs j bc w h hlt hbj
    | cons x l => exact rtake_some rb r cap bs j x l bc w h hrb hlt hbj

def RSent (rb : Nat → Prop) (n : Nat) (E : Int) (bs : List Bx) (w : World) (e : Ending) (w' : World) : Prop :=
  ∃ r' cap', e = .returned (.tuple #[.slice (some ⟨r', 0, none⟩) n cap', .int .i64 E]) ∧ Below w.heap.size w w' ∧ RefAt w' rb r' cap' bs

set_option maxHeartbeats 2000000 in
theorem rsend_none (rb : Nat → Prop) (r cap : Nat) (bs : List Bx) (x : Letter) (w : World) (h : RefAt w rb r cap bs) (hk : boxOf bs x.to = none) :
    Calls Try.prog 16 #[.slice (some ⟨r, 0, none⟩) bs.length cap, x.val] w (RSent rb bs.length 3 bs w) := by
  have hb0 : Below w.heap.size w (w.alloc (.cells x.cells.toArray 52)) := (Below.refl _ _).alloc (Nat.le_refl _) _
  have ha := in_no (some ⟨r, 0, none⟩) bs.length cap x.to (w.alloc (.cells x.cells.toArray 52)) h.few (boxOf_none hk)
  have HR := Lib.hid h
  clear hk h
  obtain ⟨xt, xf, xk, xs⟩ := x
  unfold Letter.val
  simp only [Letter.cells] at ha hb0
  go_enter Try.func16, Try.ntmps16
  go_wp2_with fail
  refine ha.mono ?_
  rintro e w1 ⟨rfl, hb⟩
  have HB := Lib.hid (bt hb0 hb)
  clear ha hb hb0
  go_wp2
  go_ret2
  exact ⟨r, cap, rfl, HB.out, HR.out.below HB.out⟩

set_option maxHeartbeats 4000000 in
theorem rsend_refused (rb : Nat → Prop) (r cap : Nat) (bs : List Bx) (j : Nat) (xf xk : Int) (xs : ByteArray) (b : Bx) (w : World) (h : RefAt w rb r cap bs) (hj : j < bs.length) (hbj : bs[j]? = some b) (hno : b.c = true ∨ b.l.length = 8) :
    Calls Try.prog 16 #[.slice (some ⟨r, 0, none⟩) bs.length cap, (⟨(j : Int), xf, xk, xs⟩ : Letter).val] w (RSent rb bs.length (if b.c then 135 else 160) bs w) := by
  have hb0 : Below w.heap.size w (w.alloc (.cells #[.int .i64 (j : Int), .int .i64 xf, .int .i64 xk, .string xs] 52)) := (Below.refl _ _).alloc (Nat.le_refl _) _
  have ha := in_yes (some ⟨r, 0, none⟩) bs.length cap j (w.alloc (.cells #[.int .i64 (j : Int), .int .i64 xf, .int .i64 xk, .string xs] 52)) h.few hj
  obtain ⟨ad, c, h0, h1, h2⟩ := h.at' j b hbj
  have hl := h.lt
  have h00 : (0 : Int) ≤ (j : Int) := by omega
  have h11 : (j : Int) < (bs.length : Int) := by omega
  have HR := Lib.hid h
  have h8 := h.len j b hbj
  obtain ⟨bl, bc⟩ := b
  simp only at h0 h1 hno h8 ⊢
  have HNO := Lib.hid hno
  clear h h2 hbj hno
  cases bc with
  | true =>
    rw [if_pos rfl]
    unfold Letter.val
    go_enter Try.func16, Try.ntmps16
    go_wp2_with fail
    refine ha.mono ?_
    rintro e w1 ⟨rfl, hb⟩
    have HB := Lib.hid (bt hb0 hb)
    have hx := (Blk.new w _ 52 #[.int .i64 (j : Int), .int .i64 xf, .int .i64 xk, .string xs] rfl).by (only_below hb none) (by simp)
    have x0 : w1.cell? ⟨w.heap.size, 0, none⟩ = some (.int .i64 (j : Int)) := hx.cell 0
    have hxl := hx.lt
    have c1 := (HB.out.cell (p := ⟨r, j * 2, none⟩) hl).trans h0
    have c2 := (HB.out.cell (p := ⟨r, j * 2 + 1, none⟩) hl).trans h1
    have hl1 := World.block_lt_of_cell? w1 _ c1
    clear ha hb hb0 h0 h1 hx
    go_wp2
    go_ret2
    have hbb := HB.out.alloc HB.out.size (.cells #[.slice ad bl.length c, .bool true] 62)
    exact ⟨r, cap, rfl, hbb, HR.out.below hbb⟩
  | false =>
    have hl8 : bl.length = 8 := by simpa using HNO.out
    rw [if_neg (by simp)]
    unfold Letter.val
    go_enter Try.func16, Try.ntmps16
    go_wp2_with fail
    refine ha.mono ?_
    rintro e w1 ⟨rfl, hb⟩
    have HB := Lib.hid (bt hb0 hb)
    have hx := (Blk.new w _ 52 #[.int .i64 (j : Int), .int .i64 xf, .int .i64 xk, .string xs] rfl).by (only_below hb none) (by simp)
    have x0 : w1.cell? ⟨w.heap.size, 0, none⟩ = some (.int .i64 (j : Int)) := hx.cell 0
    have hxl := hx.lt
    have c1 := (HB.out.cell (p := ⟨r, j * 2, none⟩) hl).trans h0
    have c2 := (HB.out.cell (p := ⟨r, j * 2 + 1, none⟩) hl).trans h1
    have hl1 := World.block_lt_of_cell? w1 _ c1
    clear ha hb hb0 h0 h1 hx
    rw [hl8] at c1
    go_wp2
    go_ret2
    have hbb := HB.out.alloc HB.out.size (.cells #[.slice ad 8 c, .bool false] 62)
    exact ⟨r, cap, rfl, hbb, HR.out.below hbb⟩
end Go.Proofs.Ytilnbgkepijfbaa
