/- The post and the reference side by side; no condition. -/
import Derived.Test.YtilnbgkepijfbaaPt
namespace Go.Proofs.Ytilnbgkepijfbaa
open Go.RowKit
set_option linter.unusedVariables false
set_option linter.unusedSimpArgs false

theorem rsend_any (rb : Nat → Prop) (r cap : Nat) (bs : List Bx) (x : Letter) (w : World) (h : RefAt w rb r cap bs) (hrb : ∀ x, rb x → x < w.heap.size) :
    Calls Try.prog 16 #[.slice (some ⟨r, 0, none⟩) bs.length cap, x.val] w (RSent rb bs.length (sendE bs x) (sendS bs x) w) := by
  unfold sendS sendE
  cases hk : boxOf bs x.to with
  | none => exact rsend_none rb r cap bs x w h hk
  | some b =>
    obtain ⟨j, hj, hlt, hbj⟩ := boxOf_some hk
    obtain ⟨xt, xf, xk, xs⟩ := x
    simp only at hj
    subst hj
    obtain ⟨bl, bc⟩ := b
    have h8 := h.len j _ hbj
    simp only [Int.toNat_natCast] at *
    cases bc with
    | true => exact rsend_refused rb r cap bs j xf xk xs ⟨bl, true⟩ w h hlt hbj (.inl rfl)
    | false =>
      by_cases e : bl.length = 8
      · have := rsend_refused rb r cap bs j xf xk xs ⟨bl, false⟩ w h hlt hbj (.inr e)
        simpa [e] using this
      · have := rsend_some rb r cap bs j xf xk xs bl w h hrb hlt hbj (by omega)
        simpa [e] using this

theorem sendS_len (bs : List Bx) (x : Letter) : (sendS bs x).length = bs.length := by
  unfold sendS; split <;> (try split) <;> (try split) <;> simp
theorem takeS_len (bs : List Bx) (k : Int) : (takeS bs k).length = bs.length := by
  unfold takeS; split <;> (try split) <;> simp
theorem closeS_len (bs : List Bx) (k : Int) : (closeS bs k).length = bs.length := by
  unfold closeS; split <;> (try split) <;> simp

/-- The post of pointer g holds bs, the reference's slice (n boxes, block r) holds bs'. -/
structure Both (w : World) (g rb n : Nat) (bs : List Bx) (r cap : Nat) (bs' : List Bx) (wr : World) : Prop where
  m : Mine w g rb bs wr
  f : RefAt wr (fun x => x = rb) r cap bs'
  n' : bs'.length = n
section
variable {w wr b : World} {g rb n r cap : Nat} {bs bs' bs2 : List Bx}
theorem Both.own (h : Both w g rb n bs r cap bs' wr) : ∀ x, x = rb → x < wr.heap.size := by
  rintro x rfl
  obtain ⟨cs, hb, _⟩ := h.m.p.row
  exact hb.lt
theorem Both.quiet (h : Both w g rb n bs r cap bs' wr) (k : Below wr.heap.size wr b) : Both w g rb n bs r cap bs' b := ⟨h.m.quiet k, h.f.below k, h.n'⟩
theorem Both.grow (h : Both w g rb n bs r cap bs' wr) (k : wr.grownBy b (some rb)) (q : PostAt b g rb bs2) : Both w g rb n bs2 r cap bs' b :=
  ⟨h.m.grow k q, h.f.by k (fun x e => by injection e with e; exact e.symm), h.n'⟩
theorem Both.ne (h : Both w g rb n bs r cap bs' wr) {xb : Nat} {t : TypeId} {cs : Array Value} (hx : Blk wr xb t cs) (ht : t ≠ 76 := by decide) : some xb ≠ some rb := by
  obtain ⟨c2, hb, _⟩ := h.m.p.row
  have := hx.ne hb ht
  intro e; injection e with e; exact this e

theorem Both.rsend (h : Both w g rb n bs r cap bs' wr) (x : Letter) :
    Calls Try.prog 16 #[.slice (some ⟨r, 0, none⟩) n cap, x.val] wr fun e w' => ∃ r' cap', e = .returned (.tuple #[.slice (some ⟨r', 0, none⟩) n cap', .int .i64 (sendE bs' x)]) ∧ Both w g rb n bs r' cap' (sendS bs' x) w' ∧ wr.grownBy w' (some rb) := by
  have hn := h.n'
  subst hn
  refine (rsend_any _ r cap bs' x wr h.f h.own).mono ?_
  rintro e w' ⟨r', cap', rfl, hb, hf⟩
  exact ⟨r', cap', rfl, ⟨h.m.quiet hb, hf, sendS_len _ _⟩, only_below hb _⟩
theorem Both.send (h : Both w g rb n bs r cap bs' wr) (x : Letter) :
    Calls Try.prog 9 #[.pointer (some ⟨g, 0, none⟩), x.val] wr fun e w' => e = .returned (.int .i64 (sendE bs x)) ∧ Both w g rb n (sendS bs x) r cap bs' w' ∧ wr.grownBy w' (some rb) :=
  (send_any g rb bs x wr h.m.p).mono fun e w' ⟨h1, h2, h3⟩ => ⟨h1, h.grow h3 h2, h3⟩
theorem Both.rtake (h : Both w g rb n bs r cap bs' wr) (k : Int) :
    Calls Try.prog 17 #[.slice (some ⟨r, 0, none⟩) n cap, .int .i64 k] wr fun e w' => ∃ r' cap', e = .returned (.tuple #[.slice (some ⟨r', 0, none⟩) n cap', (takeV bs' k).val, .int .i64 (takeE bs' k)]) ∧ Both w g rb n bs r' cap' (takeS bs' k) w' ∧ wr.grownBy w' (some rb) := by
  have hn := h.n'
  subst hn
  refine (rtake_any _ r cap bs' k wr h.f h.own).mono ?_
  rintro e w' ⟨r', cap', rfl, hb, hf⟩
  exact ⟨r', cap', rfl, ⟨h.m.quiet hb, hf, takeS_len _ _⟩, only_below hb _⟩
theorem Both.take (h : Both w g rb n bs r cap bs' wr) (k : Int) :
    Calls Try.prog 10 #[.pointer (some ⟨g, 0, none⟩), .int .i64 k] wr fun e w' => e = .returned (.tuple #[(takeV bs k).val, .int .i64 (takeE bs k)]) ∧ Both w g rb n (takeS bs k) r cap bs' w' ∧ wr.grownBy w' (some rb) :=
  (take_op g rb bs k wr h.m.p).mono fun e w' ⟨h1, h2, h3⟩ => ⟨h1, h.grow h3 h2, h3⟩
theorem Both.rclose (h : Both w g rb n bs r cap bs' wr) (k : Int) :
    Calls Try.prog 18 #[.slice (some ⟨r, 0, none⟩) n cap, .int .i64 k] wr fun e w' => ∃ r' cap' ad c, e = .returned (.tuple #[.slice (some ⟨r', 0, none⟩) n cap', .slice ad (closeV bs' k).length c, .int .i64 (closeE bs' k)]) ∧ Both w g rb n bs r' cap' (closeS bs' k) w' ∧ Note w' (fun x => x = rb) ad (closeV bs' k).length c (closeV bs' k) ∧ wr.grownBy w' (some rb) := by
  have hn := h.n'
  subst hn
  refine (rclose_any _ r cap bs' k wr h.f h.own).mono ?_
  rintro e w' ⟨r', cap', ad, c, rfl, hb, hf, hN⟩
  exact ⟨r', cap', ad, c, rfl, ⟨h.m.quiet hb, hf, closeS_len _ _⟩, hN, only_below hb _⟩
theorem Both.close (h : Both w g rb n bs r cap bs' wr) (k : Int) :
    Calls Try.prog 14 #[.pointer (some ⟨g, 0, none⟩), .int .i64 k] wr fun e w' => ∃ ad c, e = .returned (.tuple #[.slice ad (closeV bs k).length c, .int .i64 (closeE bs k)]) ∧ Slips w' ad (closeV bs k).length c (closeV bs k) ∧ Both w g rb n (closeS bs k) r cap bs' w' ∧ wr.grownBy w' (some rb) :=
  (close_any g rb bs k wr h.m.p).mono fun e w' ⟨v, h1, h2, h3, h4⟩ => by
    obtain ⟨ad, c, rfl, hs⟩ := slips_of h2
    exact ⟨ad, c, h1, hs, h.grow h4 h3, h4⟩
theorem Both.lenq (h : Both w g rb n bs r cap bs' wr) (k : Int) :
    Calls Try.prog 13 #[.pointer (some ⟨g, 0, none⟩), .int .i64 k] wr fun e w' => e = .returned (.int .i64 (lenOf bs k)) ∧ Below wr.heap.size wr w' := len_any g rb bs k wr h.m.p
theorem Both.roomq (h : Both w g rb n bs r cap bs' wr) (k : Int) :
    Calls Try.prog 12 #[.pointer (some ⟨g, 0, none⟩), .int .i64 k] wr fun e w' => e = .returned (.int .i64 (roomOf bs k)) ∧ Below wr.heap.size wr w' := room_any g rb bs k wr h.m.p
theorem Both.rlenq (h : Both w g rb n bs r cap bs' wr) (k : Int) :
    Calls Try.prog 21 #[.slice (some ⟨r, 0, none⟩) n cap, .int .i64 k] wr fun e w' => e = .returned (.int .i64 (lenOf bs' k)) ∧ Below wr.heap.size wr w' := by
  have hn := h.n'
  subst hn
  exact rlen_any _ r cap bs' k wr h.f
theorem Both.rroomq (h : Both w g rb n bs r cap bs' wr) (k : Int) :
    Calls Try.prog 22 #[.slice (some ⟨r, 0, none⟩) n cap, .int .i64 k] wr fun e w' => e = .returned (.int .i64 (roomOf bs' k)) ∧ Below wr.heap.size wr w' := by
  have hn := h.n'
  subst hn
  exact rroom_any _ r cap bs' k wr h.f
end
/-- A slice of acts that came in: kinds and letters. -/
def IsActs (w : World) (a : Option Addr) (len : Nat) (f : Nat → Int × Letter) : Prop :=
  ∀ i, i < len → ∃ b off, a = some ⟨b, off, none⟩ ∧ b < w.heap.size ∧ w.cell? ⟨b, off + i * 5, none⟩ = some (.int .i64 (f i).1) ∧ w.cell? ⟨b, off + i * 5 + 1, none⟩ = some (.int .i64 (f i).2.to) ∧ w.cell? ⟨b, off + i * 5 + 1 + 1, none⟩ = some (.int .i64 (f i).2.frm) ∧
    w.cell? ⟨b, off + i * 5 + 1 + 2, none⟩ = some (.int .i64 (f i).2.kind) ∧ w.cell? ⟨b, off + i * 5 + 1 + 3, none⟩ = some (.string (f i).2.text) ∧ (f i).2.text.size ≤ maxLen
end Go.Proofs.Ytilnbgkepijfbaa
