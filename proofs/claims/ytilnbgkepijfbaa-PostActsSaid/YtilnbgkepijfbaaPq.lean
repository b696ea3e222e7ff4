/- The walk of the reference's Close; no condition. -/
import Derived.Test.YtilnbgkepijfbaaPo
namespace Go.Proofs.Ytilnbgkepijfbaa
open Go.RowKit
set_option linter.unusedVariables false
set_option linter.unusedSimpArgs false

def RClosed (rb : Nat → Prop) (n : Nat) (E : Int) (l : List Letter) (bs : List Bx) (w : World) (e : Ending) (w' : World) : Prop :=
  ∃ r' cap' ad c, e = .returned (.tuple #[.slice (some ⟨r', 0, none⟩) n cap', .slice ad l.length c, .int .i64 E]) ∧ Below w.heap.size w w' ∧ RefAt w' rb r' cap' bs ∧ Note w' rb ad l.length c l

set_option maxHeartbeats 4000000 in
theorem rclose_some (rb : Nat → Prop) (r cap : Nat) (bs : List Bx) (j : Nat) (b : Bx) (w : World) (h : RefAt w rb r cap bs) (hrb : ∀ x, rb x → x < w.heap.size) (hj : j < bs.length) (hbj : bs[j]? = some b) :
    Calls Try.prog 18 #[.slice (some ⟨r, 0, none⟩) bs.length cap, .int .i64 (j : Int)] w (if b.c then RClosed rb bs.length 135 [] bs w else RClosed rb bs.length 0 b.l (bs.set j ⟨[], true⟩) w) := by
  have ha := in_yes (some ⟨r, 0, none⟩) bs.length cap j w h.few hj
  obtain ⟨ad, c, h0, h1, h2⟩ := h.at' j b hbj
  have hlt := h.lt
  have h00 : (0 : Int) ≤ (j : Int) := by omega
  have h11 : (j : Int) < (bs.length : Int) := by omega
  have h8 := h.len j b hbj
  have HR := Lib.hid h
  have HN := Lib.hid h2
  have hput := fun W (hR : RefAt W rb r cap bs) (hw : ∀ x, rb x → x < W.heap.size) => put_any rb r cap j bs ⟨[], true⟩ none 0 W hR hw hj (note_nil W rb) (Nat.zero_le _)
  simp only [List.length_nil] at hput
  obtain ⟨bl, bc⟩ := b
  simp only at h0 h1 h8 HN ⊢
  clear hbj h h2
  cases bc with
  | true =>
    clear hput
    go_enter Try.func18, Try.ntmps18
    go_wp2_with fail
    refine ha.mono ?_
    rintro e w1 ⟨rfl, hb⟩
    have c1 := (hb.cell (p := ⟨r, j * 2 + 1, none⟩) hlt).trans h1
    have hlt1 := World.block_lt_of_cell? w1 _ c1
    clear h0 ha h1
    go_wp2
    refine bodyPost_ret (v := .tuple #[.slice (some ⟨r, 0, none⟩) bs.length cap, .slice none 0 0, .int .i64 135]) (by simp [results, Try.results18, go_sem]) rfl ?_
    exact ⟨r, cap, none, 0, rfl, hb, HR.out.below hb, note_nil _ _⟩
  | false =>
    go_enter Try.func18, Try.ntmps18
    go_wp2_with fail
    refine ha.mono ?_
    rintro e w1 ⟨rfl, hb⟩
    have c0 := (hb.cell (p := ⟨r, j * 2, none⟩) hlt).trans h0
    have c1 := (hb.cell (p := ⟨r, j * 2 + 1, none⟩) hlt).trans h1
    have hlt1 := World.block_lt_of_cell? w1 _ c0
    have HB := Lib.hid hb
    have hbd := below_drewN hb 1
    have HPUT := Lib.hid hput
    clear h0 ha h1 hput
    go_wp2_with fail
    go_region_held3 (fun w' => w'.cell? ⟨r, j * 2, none⟩ = some (.slice ad bl.length c) ∧ Hid (Below w.heap.size w w'))
      (first | exact ⟨c0, Lib.hid hbd⟩ | exact ⟨e0, HBE⟩ | assumption)
      (first | (go_at_call 27; have hh := ‹_ ∧ Hid (Below w.heap.size w _)›; refine (HPUT.out _ (HR.out.below hh.2.out) (fun x e => Nat.lt_of_lt_of_le (hrb x e) hh.2.out.size)).mono ?_; rintro e w4 ⟨r', cap', rfl, hb4, hR4⟩; have HR4 := Lib.hid hR4; have HBE := Lib.hid (bt hh.2.out hb4); have e0 := (hb4.cell (p := ⟨r, j * 2, none⟩) (World.block_lt_of_cell? _ _ hh.1)).trans hh.1))
    go_wp2
    refine bodyPost_ret (v := .tuple #[.slice (some ⟨r', 0, none⟩) bs.length cap', .slice ad bl.length c, .int .i64 0]) (by simp [results, Try.results18, go_sem]) rfl ?_
    exact ⟨r', cap', ad, c, rfl, HBE.out, HR4.out, HN.out.below HBE.out⟩

set_option maxHeartbeats 1000000 in
theorem rclose_none (rb : Nat → Prop) (r cap : Nat) (bs : List Bx) (k : Int) (w : World) (h : RefAt w rb r cap bs) (hk : boxOf bs k = none) :
    Calls Try.prog 18 #[.slice (some ⟨r, 0, none⟩) bs.length cap, .int .i64 k] w (RClosed rb bs.length 3 [] bs w) := by
  have ha := in_no (some ⟨r, 0, none⟩) bs.length cap k w h.few (boxOf_none hk)
  have HR := Lib.hid h
  clear hk h
  go_enter Try.func18, Try.ntmps18
  go_wp2_with fail
  refine ha.mono ?_
  rintro e w1 ⟨rfl, hb⟩
  go_wp2
  refine bodyPost_ret (v := .tuple #[.slice (some ⟨r, 0, none⟩) bs.length cap, .slice none 0 0, .int .i64 3]) (by simp [results, Try.results18, go_sem]) rfl ?_
  exact ⟨r, cap, none, 0, rfl, hb, HR.out.below hb, note_nil _ _⟩

theorem rclose_any (rb : Nat → Prop) (r cap : Nat) (bs : List Bx) (k : Int) (w : World) (h : RefAt w rb r cap bs) (hrb : ∀ x, rb x → x < w.heap.size) :
    Calls Try.prog 18 #[.slice (some ⟨r, 0, none⟩) bs.length cap, .int .i64 k] w (RClosed rb bs.length (closeE bs k) (closeV bs k) (closeS bs k) w) := by
  unfold closeE closeV closeS
  cases hk : boxOf bs k with
  | none => exact rclose_none rb r cap bs k w h hk
  | some b =>
    obtain ⟨j, rfl, hlt, hbj⟩ := boxOf_some hk
    have := rclose_some rb r cap bs j b w h hrb hlt hbj
    simp only [Int.toNat_natCast]
    split at this <;> rename_i h1
    · simp only [h1, if_true]; exact this
    · simp only [h1]; exact this

/-! ### Take -/
theorem wpList_copy_letters {ops : Array Oper} {rest : List Oper} {o : Oper} {a : Act} {Q : Exit → Act → World → Prop} (hgd : o.guard = none) (s x : Operand)
    (ho : o.op = .call { callee := .builtin .append, args := #[s, x], argTypes := #[55, 55] }) (w : World) (H : Nat) (hH : w.heap.size = H) (hs : a.eval s = .slice (some ⟨H, 0, none⟩) 0 0)
    (ad : Addr) (c : Nat) (l : List Letter) (hl8 : l.length ≤ 8) (hx : a.eval x = .slice (some ad) l.length c) (hnews : ∀ (j : Nat) (u : Value), (cellsOf l)[j]? = some u → (w.alloc (.cells #[] 52)).cell? (ad.add j) = some u)
    (h : ∀ ad' c' w', w'.ownsRow H 52 4 (.slice ad' l.length c') l.length (cellsOf l) → (w.alloc (.cells #[] 52)).grownBy w' (some H) → wpList Try.prog ops Q rest (a.put o.dst (.slice ad' l.length c')) w') :
    wpList Try.prog ops Q (o :: rest) a (w.alloc (.cells #[] 52)) := by
  subst hH
  obtain ⟨i0, z0, hi0, hz0, hz1, hz2, hz3⟩ := info52
  refine wpList_append_own _ hgd s x 55 ho w.heap.size 52 i0 z0 4 40 Try.underlying55 hi0 hz0 hz1 hz2 hz3 (by omega) _ 0 [] hs (World.ownsRow_made (base := w.heap.size) (e := 52) (size := 4) w #[] 0 (Nat.le_refl _) (by unfold maxLen; omega) (by simp)) ad l.length c (cellsOf l) hx (cellsOf_len l) hnews (by
    intro u hu
    simp only [cellsOf, List.mem_flatMap] at hu
    obtain ⟨q, _, hq⟩ := hu
    exact ones_letter q u hq) (by unfold maxLen; omega) (by omega) (by simp) ?_
  intro v' w' hown hgrow _
  have hown' : w'.ownsRow w.heap.size 52 4 v' l.length (cellsOf l) := by simpa using hown
  obtain ⟨ad', c', rfl, _⟩ := slips_of52 hown'
  exact h ad' c' w' hown' hgrow

/-- The cells of a slice's letters from letter m on. -/
theorem Slips.news {w : World} {gb n cap : Nat} {l : List Letter} (h : Slips w (some ⟨gb, 0, none⟩) n cap l) (j : Nat) (u : Value) (hu : (cellsOf l)[j]? = some u) : w.cell? ⟨gb, j, none⟩ = some u := by
  have hj : j < l.length * 4 := by have := (List.getElem?_eq_some_iff.1 hu).1; rwa [cellsOf_len] at this
  obtain ⟨x, hx⟩ : ∃ x, l[j / 4]? = some x := ⟨_, List.getElem?_eq_getElem (by omega)⟩
  have e : j = j / 4 * 4 + j % 4 := by omega
  have hm : j % 4 < 4 := Nat.mod_lt _ (by decide)
  rw [e, cellsOf_get l _ _ x hx hm] at hu
  obtain ⟨gb', hg, _, h0, h1, h2, h3⟩ := h.at' _ x hx
  injection hg with hg
  injection hg with hg
  subst hg
  rw [e, ← hu]
  generalize j % 4 = m at hm
  match m, hm with
  | 0, _ => exact h0
  | 1, _ => exact h1
  | 2, _ => exact h2
  | 3, _ => exact h3
end Go.Proofs.Ytilnbgkepijfbaa
