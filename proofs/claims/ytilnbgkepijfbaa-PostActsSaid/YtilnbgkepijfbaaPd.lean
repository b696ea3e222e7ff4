/- The walk of Post.Send; no condition. -/
import Derived.Test.YtilnbgkepijfbaaPc
namespace Go.Proofs.Ytilnbgkepijfbaa
open Go.RowKit
set_option linter.unusedVariables false
set_option linter.unusedSimpArgs false

def sendE (bs : List Bx) (x : Letter) : Int := match boxOf bs x.to with | some b => if b.c then 135 else if b.l.length = 8 then 160 else 0 | none => 3
def sendS (bs : List Bx) (x : Letter) : List Bx := match boxOf bs x.to with | some b => if b.c then bs else if b.l.length = 8 then bs else bs.set x.to.toNat ⟨b.l ++ [x], b.c⟩ | none => bs

/-- What a call leaves of a post: its answer v, and its boxes bs. -/
def Left (g rb : Nat) (bs : List Bx) (v : Value) (w : World) (e : Ending) (w' : World) : Prop :=
  e = .returned v ∧ PostAt w' g rb bs ∧ w.grownBy w' (some rb)

theorem Left.mk' {g rb : Nat} {bs : List Bx} {v : Value} {w w' : World} (h : PostAt w g rb bs) (k : Below w.heap.size w w') : Left g rb bs v w (.returned v) w' :=
  ⟨rfl, h.below k, only_below k _⟩

set_option maxHeartbeats 4000000 in
theorem send_none (g rb : Nat) (bs : List Bx) (x : Letter) (w : World) (h : PostAt w g rb bs) (hk : boxOf bs x.to = none) :
    Calls Try.prog 9 #[.pointer (some ⟨g, 0, none⟩), x.val] w (Left g rb bs (.int .i64 3) w) := by
  obtain ⟨xt, xf, xk, xs⟩ := x
  simp only at hk
  unfold Letter.val
  have ha := fun W (hP : PostAt W g rb bs) => at_out g rb bs.length xt W (boxOf_none hk) hP.few hP.cell0
  have HP := Lib.hid h
  clear hk h
  go_enter Try.func9, Try.ntmps9
  go_wp2_with fail
  have hb0 : Below w.heap.size w (w.alloc (.cells #[.int .i64 xt, .int .i64 xf, .int .i64 xk, .string xs] 33)) := (Below.refl _ _).alloc (Nat.le_refl _) _
  refine (ha _ (HP.out.below hb0)).mono ?_
  rintro e w1 ⟨q, cs, rfl, hb, hq, h1, h2, h3⟩
  have c1 : w1.cell? ⟨q, 33, none⟩ = some (.int .i64 0) := by rw [show w1.cell? ⟨q, 33, none⟩ = cs[33]? from Blk.cell (t := 76) h1 33]; exact h2
  have c3 : w1.cell? ⟨q, 34, none⟩ = some (.bool false) := by rw [show w1.cell? ⟨q, 34, none⟩ = cs[34]? from Blk.cell (t := 76) h1 34]; exact h3
  have hlt : q < w1.heap.size := Blk.lt (t := 76) h1
  have HB1 := Lib.hid (bt hb0 hb)
  clear h1 h2 h3 ha hb hb0
  go_wp2_with fail
  generalize hW : w1.alloc (.cells #[.bool true, .int .i64 3] 70) = w2
  have d0 : w2.cell? ⟨w1.heap.size, 0, none⟩ = some (.bool true) := by rw [← hW]; exact (Blk.new w1 _ 70 _ rfl).cell 0
  have d1 : w2.cell? ⟨w1.heap.size, 1, none⟩ = some (.int .i64 3) := by rw [← hW]; exact (Blk.new w1 _ 70 _ rfl).cell 1
  have d2 : w2.cell? ⟨q, 34, none⟩ = some (.bool false) := by rw [← hW]; exact keep_alloc _ c3
  have d3 : w2.cell? ⟨q, 33, none⟩ = some (.int .i64 0) := by rw [← hW]; exact keep_alloc _ c1
  have hb2 : Below w.heap.size w w2 := by rw [← hW]; exact HB1.out.alloc HB1.out.size _
  have HB2 := Lib.hid hb2
  clear hW c1 c3 hb2 HB1
  go_region_held3 (fun w' => w'.cell? ⟨w1.heap.size, 0, none⟩ = some (.bool true) ∧ w'.cell? ⟨w1.heap.size, 1, none⟩ = some (.int .i64 3) ∧ w'.cell? ⟨q, 34, none⟩ = some (.bool false) ∧ w'.cell? ⟨q, 33, none⟩ = some (.int .i64 0))
    (first | exact ⟨d0, d1, d2, d3⟩ | exact ⟨keep_call d0 hb4, keep_call d1 hb4, keep_call d2 hb4, keep_call d3 hb4⟩ | go_keep)
    (first | (go_at_call 24; refine (first_three _ true false false 3 135 160 _ (Blk.new _ _ 70 _ rfl).drew).mono ?_; rintro e w4 ⟨rfl, hb4⟩; have HB4 := Lib.hid hb4))
  have hfin := bt (bt HB2.out ((Below.alloc (Below.refl w2.heap.size w2) (Nat.le_refl _) (.cells #[.bool true, .int .i64 3, .bool false, .int .i64 135, .bool false, .int .i64 160] 70)).drew)) hb4
  have HFIN := Lib.hid hfin
  have hf : firstOf [(true, 3), (false, 135), (false, 160)] = 3 := rfl
  rw [hf]
  clear hfin hb4 HB4 HB2 d0 d1 d2 d3 hf
  go_wp2
  go_ret
  exact Left.mk' HP.out HFIN.out

set_option maxHeartbeats 8000000 in
theorem send_some (g rb : Nat) (bs : List Bx) (j : Nat) (xf xk : Int) (xs : ByteArray) (b : Bx) (w : World) (h : PostAt w g rb bs) (hj : j < bs.length) (hbj : bs[j]? = some b) :
    Calls Try.prog 9 #[.pointer (some ⟨g, 0, none⟩), (⟨(j : Int), xf, xk, xs⟩ : Letter).val] w
      (if b.c then Left g rb bs (.int .i64 135) w else if b.l.length = 8 then Left g rb bs (.int .i64 160) w else Left g rb (bs.set j ⟨b.l ++ [⟨(j : Int), xf, xk, xs⟩], b.c⟩) (.int .i64 0) w) := by
  have HP := Lib.hid h
  obtain ⟨p, f, cs, hb, hr⟩ := h
  obtain ⟨hd, hx⟩ := hr j b hbj
  have hb0 : Below w.heap.size w (w.alloc (.cells #[.int .i64 (j : Int), .int .i64 xf, .int .i64 xk, .string xs] 33)) := (Below.refl _ _).alloc (Nat.le_refl _) _
  have ha := at_in g rb bs.length j (w.alloc (.cells #[.int .i64 (j : Int), .int .i64 xf, .int .i64 xk, .string xs] 33)) hj f ((HP.out.below hb0).ptr.cell 0)
  have c1 : w.cell? ⟨rb, j * 35 + 33, none⟩ = some (.int .i64 b.l.length) := (hb.cell _).trans hx.many
  have c2 : w.cell? ⟨rb, j * 35 + 34, none⟩ = some (.bool b.c) := (hb.cell _).trans hx.shut
  have hlt := hb.lt
  have hlen := hx.len
  have HX := Lib.hid hx
  have HB := Lib.hid hb
  clear hr hx hb p
  obtain ⟨bl, bc⟩ := b
  simp only at c1 c2 hlen hbj ⊢
  unfold Letter.val
  go_enter Try.func9, Try.ntmps9
  go_wp2_with fail
  refine ha.mono ?_
  rintro e w1 ⟨rfl, hb1⟩
  have HB1 := Lib.hid (bt hb0 hb1)
  have e1 := (HB1.out.cell (p := ⟨rb, j * 35 + 33, none⟩) hlt).trans c1
  have e2 := (HB1.out.cell (p := ⟨rb, j * 35 + 34, none⟩) hlt).trans c2
  have hlt2 := World.block_lt_of_cell? w1 _ e2
  have lx : w.heap.size < w1.heap.size := by have := hb1.size; simp at this; omega
  have x0 : w1.cell? ⟨w.heap.size, 0, none⟩ = some (.int .i64 (j : Int)) := (hb1.cell (p := ⟨w.heap.size, 0, none⟩) (by simp)).trans ((Blk.new w _ 33 _ rfl).cell 0)
  have x1 : w1.cell? ⟨w.heap.size, 1, none⟩ = some (.int .i64 xf) := (hb1.cell (p := ⟨w.heap.size, 1, none⟩) (by simp)).trans ((Blk.new w _ 33 _ rfl).cell 1)
  have x2 : w1.cell? ⟨w.heap.size, 2, none⟩ = some (.int .i64 xk) := (hb1.cell (p := ⟨w.heap.size, 2, none⟩) (by simp)).trans ((Blk.new w _ 33 _ rfl).cell 2)
  have x3 : w1.cell? ⟨w.heap.size, 3, none⟩ = some (.string xs) := (hb1.cell (p := ⟨w.heap.size, 3, none⟩) (by simp)).trans ((Blk.new w _ 33 _ rfl).cell 3)
  have HX' := Lib.hid (And.intro x0 (And.intro x1 (And.intro x2 x3)))
  clear ha c1 c2 hb0 hb1 x0 x1 x2 x3
  go_wp2_with fail
  generalize hW : w1.alloc (.cells #[.bool false, .int .i64 0] 70) = w2
  have d0 : w2.cell? ⟨w1.heap.size, 0, none⟩ = some (.bool false) := by rw [← hW]; exact (Blk.new w1 _ 70 _ rfl).cell 0
  have d1 : w2.cell? ⟨w1.heap.size, 1, none⟩ = some (.int .i64 0) := by rw [← hW]; exact (Blk.new w1 _ 70 _ rfl).cell 1
  have d2 : w2.cell? ⟨rb, j * 35 + 34, none⟩ = some (.bool bc) := by rw [← hW]; exact keep_alloc _ e2
  have d3 : w2.cell? ⟨rb, j * 35 + 33, none⟩ = some (.int .i64 bl.length) := by rw [← hW]; exact keep_alloc _ e1
  have y0 : w2.cell? ⟨w.heap.size, 0, none⟩ = some (.int .i64 (j : Int)) := by rw [← hW]; exact keep_alloc _ HX'.out.1
  have y1 : w2.cell? ⟨w.heap.size, 1, none⟩ = some (.int .i64 xf) := by rw [← hW]; exact keep_alloc _ HX'.out.2.1
  have y2 : w2.cell? ⟨w.heap.size, 2, none⟩ = some (.int .i64 xk) := by rw [← hW]; exact keep_alloc _ HX'.out.2.2.1
  have y3 : w2.cell? ⟨w.heap.size, 3, none⟩ = some (.string xs) := by rw [← hW]; exact keep_alloc _ HX'.out.2.2.2
  have hb2 : Below w.heap.size w w2 := by rw [← hW]; exact HB1.out.alloc HB1.out.size _
  have HB2 := Lib.hid hb2
  have HY := Lib.hid (And.intro y0 (And.intro y1 (And.intro y2 y3)))
  clear hW e1 e2 HB1 hb2 HX' y0 y1 y2 y3
  generalize hful : ((bl.length : Int) == 8) = ful
  have HFU := Lib.hid hful
  go_region_held3 (fun w' => w'.cell? ⟨w1.heap.size, 0, none⟩ = some (.bool false) ∧ w'.cell? ⟨w1.heap.size, 1, none⟩ = some (.int .i64 0) ∧ w'.cell? ⟨rb, j * 35 + 34, none⟩ = some (.bool bc) ∧ w'.cell? ⟨rb, j * 35 + 33, none⟩ = some (.int .i64 bl.length))
    (first | exact ⟨d0, d1, d2, d3⟩ | exact ⟨keep_call d0 hb4, keep_call d1 hb4, keep_call d2 hb4, keep_call d3 hb4⟩ | go_keep)
    (first | (go_at_call 24; refine (first_three _ false bc ful 0 135 160 _ (Blk.new _ _ 70 _ rfl).drew).mono ?_; rintro e w4 ⟨rfl, hb4⟩; have HB4 := Lib.hid hb4))
  have d4 := keep_call d3 hb4
  have z0 := keep_call HY.out.1 hb4
  have z1 := keep_call HY.out.2.1 hb4
  have z2 := keep_call HY.out.2.2.1 hb4
  have z3 := keep_call HY.out.2.2.2 hb4
  have hlt4 := World.block_lt_of_cell? w4 _ d4
  have hlt5 := World.block_lt_of_cell? w4 _ z0
  have hfin := bt (bt HB2.out ((Below.alloc (Below.refl w2.heap.size w2) (Nat.le_refl _) (.cells #[.bool false, .int .i64 0, .bool bc, .int .i64 135, .bool ful, .int .i64 160] 70)).drew)) hb4
  have HFIN := Lib.hid hfin
  clear hfin hb4 HB4 HB2 d0 d1 d2 d3 hful HY
  cases bc with
  | true =>
    have hf : firstOf [(false, 0), (true, 135), (ful, 160)] = 135 := rfl
    rw [hf]
    clear hf z0 z1 z2 z3 d4
    go_wp2
    go_ret
    exact Left.mk' HP.out HFIN.out
  | false =>
    cases ful with
    | true =>
      have hf : firstOf [(false, 0), (false, 135), (true, 160)] = 160 := rfl
      rw [hf]
      clear hf z0 z1 z2 z3 d4
      have h8 : bl.length = 8 := by have := HFU.out; simp at this; omega
      go_wp2
      go_ret
      simp only [h8]
      exact Left.mk' HP.out HFIN.out
    | false =>
      have hf : firstOf [(false, 0), (false, 135), (false, 160)] = 0 := rfl
      rw [hf]
      clear hf
      have h8 : bl.length ≠ 8 := by have := HFU.out; simp at this; omega
      have H8 := Lib.hid h8
      have h9 : bl.length < 8 := by omega
      have hk := HB.out.by (only_below HFIN.out none) (by simp)
      have hh := HX.out.hh
      have d5 : w4.cell? ⟨rb, j * 35 + 32, none⟩ = some (.int .i64 hd) := (hk.cell _).trans HX.out.head
      have hmod : (hd + bl.length) % 8 < 8 := Nat.mod_lt _ (by decide)
      obtain ⟨zz, q0, q1, q2, q3⟩ := HX.out.ring _ hmod
      have r0 := (hk.cell _).trans q0
      have r1 := (hk.cell _).trans q1
      have r2 := (hk.cell _).trans q2
      have r3 := (hk.cell _).trans q3
      have fz := fun i => hk.free i
      have HK := Lib.hid hk
      have hb0 : (0 : Int) ≤ (hd : Int) := by omega
      have hb1 : (hd : Int) < 8 := by omega
      clear q0 q1 q2 q3 hk h8
      have hm0 : (0 : Int) ≤ ((hd : Int) + (bl.length : Int)) % 8 := by omega
      have hm1 : ((hd : Int) + (bl.length : Int)) % 8 < 8 := by omega
      have hm2 : (((hd : Int) + (bl.length : Int)) % 8).toNat = (hd + bl.length) % 8 := by omega
      go_wp2
      go_region
      go_wp2
      go_ret
      simp only [H8.out]
      have hk2 := HK.out
      have hg4 := only_below HFIN.out (some rb)
      have hbl : Blk (((((w4.setCell ⟨rb, j * 35 + (hd + bl.length) % 8 * 4, none⟩ (.int .i64 (j : Int))).setCell ⟨rb, j * 35 + (hd + bl.length) % 8 * 4 + 1, none⟩ (.int .i64 xf)).setCell ⟨rb, j * 35 + (hd + bl.length) % 8 * 4 + 2, none⟩ (.int .i64 xk)).setCell
          ⟨rb, j * 35 + (hd + bl.length) % 8 * 4 + 3, none⟩ (.string xs)).setCell ⟨rb, j * 35 + 33, none⟩ (.int .i64 ((bl.length : Int) + 1))).drew rb 76 (sendC cs (j * 35) ((hd + bl.length) % 8) (bl.length + 1) ⟨(j : Int), xf, xk, xs⟩) := by
        have h := ((((hk2.set (j * 35 + (hd + bl.length) % 8 * 4) (.int .i64 (j : Int))).set (j * 35 + (hd + bl.length) % 8 * 4 + 1) (.int .i64 xf)).set (j * 35 + (hd + bl.length) % 8 * 4 + 2) (.int .i64 xk)).set (j * 35 + (hd + bl.length) % 8 * 4 + 3) (.string xs)).set (j * 35 + 33) (.int .i64 ((bl.length : Int) + 1))
        exact h
      have hgr := only_drew (only_set (only_set (only_set (only_set (only_set hg4 (j * 35 + (hd + bl.length) % 8 * 4) (.int .i64 (j : Int))) (j * 35 + (hd + bl.length) % 8 * 4 + 1) (.int .i64 xf)) (j * 35 + (hd + bl.length) % 8 * 4 + 2) (.int .i64 xk)) (j * 35 + (hd + bl.length) % 8 * 4 + 3) (.string xs)) (j * 35 + 33) (.int .i64 ((bl.length : Int) + 1)))
      exact ⟨rfl, HP.out.turn hgr hj HB.out hbl (fun i hi => sendC_far _ _ _ _ _ _ hmod hi) ⟨hd, HX.out.send _ h9⟩, hgr⟩

theorem send_any (g rb : Nat) (bs : List Bx) (x : Letter) (w : World) (h : PostAt w g rb bs) :
    Calls Try.prog 9 #[.pointer (some ⟨g, 0, none⟩), x.val] w (Left g rb (sendS bs x) (.int .i64 (sendE bs x)) w) := by
  unfold sendS sendE
  cases hk : boxOf bs x.to with
  | none => exact send_none g rb bs x w h hk
  | some b =>
    obtain ⟨j, hj, hlt, hbj⟩ := boxOf_some hk
    obtain ⟨xt, xf, xk, xs⟩ := x
    simp only at hj
    subst hj
    have := send_some g rb bs j xf xk xs b w h hlt hbj
    simp only [Int.toNat_natCast]
    split at this <;> rename_i h1
    · rw [if_pos h1, if_pos h1]; exact this
    · split at this <;> rename_i h2
      · rw [if_neg h1, if_neg h1, if_pos h2, if_pos h2]; exact this
      · rw [if_neg h1, if_neg h1, if_neg h2, if_neg h2]; exact this
end Go.Proofs.Ytilnbgkepijfbaa
