/- The walks of the splitter's Bad, Left, Next and Push over what it holds that is not told; the bytes are at most 2^47. -/
import Derived.Test.YteclngkfiaoidaaWc
namespace Go.Proofs.Yteclngkfiaoidaa
open Go.RowKit Go.Lib
set_option linter.unusedVariables false
set_option linter.unusedSimpArgs false

/-- The splitter of block b, whose bytes' row is r, has had m bytes, of which l were not told. -/
def St (w : World) (b : Nat) (r : Option Nat) (m : Nat) (l : List UInt8) : Prop :=
  ∃ bs told, bs.length = m ∧ told ≤ m ∧ m ≤ 140737488355328 ∧ bs.drop told = l ∧ Sp w b r bs told
def St.Post (b : Nat) (r : Option Nat) (m : Nat) (l : List UInt8) (v : Value) (w : World) (e : Ending) (w' : World) : Prop :=
  ∃ r', e = .returned v ∧ St w' b r' m l ∧ Mv b r w r' w'

theorem num_nn (l : List UInt8) : 0 ≤ num l := by
  unfold num; split <;> omega
theorem num_le (l : List UInt8) : num l ≤ 65535 := by
  unfold num
  split
  · rename_i x y _
    have := UInt8.toNat_lt x
    have := UInt8.toNat_lt y
    omega
  · omega

/-- A length that may not be. -/
def bad (l : List UInt8) : Bool := has l && (num l == 0 || decide (1024 < num l))

set_option maxHeartbeats 1000000 in
theorem bad_any (b : Nat) (r : Option Nat) (m : Nat) (l : List UInt8) (w : World) (h : St w b r m l) :
    Calls Try.prog 10 #[.pointer (some ⟨b, 0, none⟩)] w (St.Post b r m l (.bool (bad l)) w) := by
  obtain ⟨bs, told, h1, h2, h3, rfl, hs⟩ := h
  have hc := length_any b r bs told w hs (by omega) (by omega)
  have hfin : ∀ w', Sp w' b r bs told → Mv b r w r w' → ∀ v, v = bad (bs.drop told) → St.Post b r m (bs.drop told) (.bool (bad (bs.drop told))) w (.returned (.bool v)) w' :=
    fun w' p q v hv => ⟨r, by rw [hv], ⟨bs, told, h1, h2, h3, rfl, p⟩, q⟩
  have hn := num_nn (bs.drop told)
  have hn1 := num_le (bs.drop told)
  generalize St.Post b r m (bs.drop told) (.bool (bad (bs.drop told))) w = POST at *
  unfold bad at hfin
  have HF := Lib.hid hfin
  clear hfin hs h1 h2 h3
  generalize num (bs.drop told) = n at *
  generalize has (bs.drop told) = k at *
  cases k with
  | false =>
    go_enter Try.func10, Try.ntmps10
    go_wp2_with fail
    refine hc.mono ?_
    rintro e w1 ⟨rfl, p, q⟩
    go_wp2
    exact HF.out _ p q false rfl
  | true =>
    by_cases e0 : n = 0
    · subst e0
      go_enter Try.func10, Try.ntmps10
      go_wp2_with fail
      refine hc.mono ?_
      rintro e w1 ⟨rfl, p, q⟩
      go_wp2
      exact HF.out _ p q true rfl
    · have g0 : (n == 0) = false := by simpa using e0
      clear e0
      by_cases e1 : 1024 < n
      · go_enter Try.func10, Try.ntmps10
        go_wp2_with fail
        refine hc.mono ?_
        rintro e w1 ⟨rfl, p, q⟩
        go_wp2
        exact HF.out _ p q true (by simp [e1])
      · go_enter Try.func10, Try.ntmps10
        go_wp2_with fail
        refine hc.mono ?_
        rintro e w1 ⟨rfl, p, q⟩
        go_wp2
        exact HF.out _ p q (decide (1024 < n)) (by simp [g0])

theorem left_st (b : Nat) (r : Option Nat) (m : Nat) (l : List UInt8) (w : World) (h : St w b r m l) :
    Calls Try.prog 12 #[.pointer (some ⟨b, 0, none⟩)] w (St.Post b r m l (.int .i64 l.length) w) := by
  obtain ⟨bs, told, h1, h2, h3, rfl, hs⟩ := h
  refine (left_any b r bs told w hs (by omega) (by omega)).mono ?_
  rintro e w' ⟨rfl, n, rfl⟩
  refine ⟨r, ?_, ⟨bs, told, h1, h2, h3, rfl, hs.drewN n⟩, (Mv.refl b r w).drewN n⟩
  congr 2
  simp; omega

set_option maxHeartbeats 1000000 in
theorem push_any (b : Nat) (r : Option Nat) (m : Nat) (l : List UInt8) (s : ByteArray) (w : World) (h : St w b r m l) (hm : m + s.size ≤ 140737488355328) :
    Calls Try.prog 9 #[.pointer (some ⟨b, 0, none⟩), .string s] w (if bad l then St.Post b r m l (.int .i64 80) w else St.Post b r (m + s.size) (l ++ s.data.toList) (.int .i64 0) w) := by
  have hb := bad_any b r m l w h
  cases hB : bad l with
  | true =>
    rw [hB] at hb
    rw [if_pos rfl]
    clear hB
    go_enter Try.func9, Try.ntmps9
    go_wp2_with fail
    refine hb.mono ?_
    rintro e w1 ⟨r', rfl, p, q⟩
    go_wp2
    go_ret
    exact ⟨r', rfl, p, q⟩
  | false =>
    rw [hB] at hb
    rw [if_neg (by decide)]
    clear hB
    go_enter Try.func9, Try.ntmps9
    go_wp2_with fail
    refine hb.mono ?_
    rintro e w1 ⟨r', rfl, p, q⟩
    obtain ⟨bs, told, h1, h2, h3, hl, hs⟩ := p
    have HL := Lib.hid hl; clear hl
    go_wp2_with fail
    refine (write_any b r' bs told s w1 hs (by omega)).mono ?_
    rintro e w2 ⟨r2, rfl, p2, q2⟩
    go_wp2
    go_ret
    refine ⟨r2, rfl, ⟨bs ++ s.data.toList, told, by rw [List.length_append, size_list, h1], by omega, hm, ?_, p2⟩, q.trans q2⟩
    rw [List.drop_append_of_le_length (by omega), HL.out]

/-- The next frame's text, and what is behind it. -/
def next (l : List UInt8) : Option (List UInt8 × List UInt8) :=
  if has l && !bad l && decide (2 + num l ≤ l.length) then some ((l.drop 2).take (num l).toNat, l.drop (2 + (num l).toNat)) else none

def nextPost (b : Nat) (r : Option Nat) (m : Nat) (l : List UInt8) (w : World) : Ending → World → Prop :=
  match next l with
  | none => St.Post b r m l (.tuple #[.string ⟨#[]⟩, .bool false]) w
  | some (t, l') => St.Post b r m l' (.tuple #[.string ⟨t.toArray⟩, .bool true]) w

theorem St.of {w : World} {b : Nat} {r : Option Nat} {m : Nat} {l : List UInt8} (h : St w b r m l) : ∃ bs told, bs.length = m ∧ told ≤ m ∧ m ≤ 140737488355328 ∧ bs.drop told = l ∧ Sp w b r bs told := h

theorem length_st (b : Nat) (r : Option Nat) (m : Nat) (l : List UInt8) (w : World) (h : St w b r m l) :
    Calls Try.prog 18 #[.pointer (some ⟨b, 0, none⟩)] w (St.Post b r m l (.tuple #[.int .i64 (num l), .bool (has l)]) w) := by
  obtain ⟨bs, told, h1, h2, h3, rfl, hs⟩ := h
  refine (length_any b r bs told w hs (by omega) (by omega)).mono ?_
  rintro e w' ⟨rfl, p, q⟩
  exact ⟨r, rfl, ⟨bs, told, h1, h2, h3, rfl, p⟩, q⟩

set_option maxHeartbeats 1000000 in
theorem next_none1 (b : Nat) (r : Option Nat) (m : Nat) (l : List UInt8) (w : World) (h : St w b r m l) (hh : has l = false) :
    Calls Try.prog 11 #[.pointer (some ⟨b, 0, none⟩)] w (St.Post b r m l (.tuple #[.string ⟨#[]⟩, .bool false]) w) := by
  have hc := length_st b r m l w h
  rw [hh] at hc
  clear hh h
  go_enter Try.func11, Try.ntmps11
  go_wp2_with fail
  refine hc.mono ?_
  rintro e w1 ⟨r1, rfl, p, q⟩
  go_wp2
  go_ret2
  exact ⟨r1, rfl, p, q⟩

set_option maxHeartbeats 1000000 in
theorem next_none2 (b : Nat) (r : Option Nat) (m : Nat) (l : List UInt8) (w : World) (h : St w b r m l) (hh : has l = true) (hb : bad l = true) :
    Calls Try.prog 11 #[.pointer (some ⟨b, 0, none⟩)] w (St.Post b r m l (.tuple #[.string ⟨#[]⟩, .bool false]) w) := by
  have hc := length_st b r m l w h
  have hd := fun r1 w1 h1 => bad_any b r1 m l w1 h1
  rw [hh] at hc
  rw [hb] at hd
  clear hh h hb
  go_enter Try.func11, Try.ntmps11
  go_wp2_with fail
  refine hc.mono ?_
  rintro e w1 ⟨r1, rfl, p, q⟩
  go_wp2_with fail
  refine (hd _ _ p).mono ?_
  rintro e w2 ⟨r2, rfl, p2, q2⟩
  go_wp2
  go_ret2
  exact ⟨r2, rfl, p2, q.trans q2⟩

set_option maxHeartbeats 1000000 in
theorem next_none3 (b : Nat) (r : Option Nat) (m : Nat) (l : List UInt8) (w : World) (h : St w b r m l) (hh : has l = true) (hb : bad l = false) (hs : ¬ 2 + num l ≤ l.length) :
    Calls Try.prog 11 #[.pointer (some ⟨b, 0, none⟩)] w (St.Post b r m l (.tuple #[.string ⟨#[]⟩, .bool false]) w) := by
  have hc := length_st b r m l w h
  have hd := fun r1 w1 h1 => bad_any b r1 m l w1 h1
  have hl := fun r1 w1 h1 => left_st b r1 m l w1 h1
  have hn := num_nn l
  have hn1 := num_le l
  have hlt : (l.length : Int) < 2 + num l := by omega
  rw [hh] at hc
  rw [hb] at hd
  clear hh h hb hs
  generalize num l = n at *
  have hll : (0 : Int) ≤ (l.length : Int) := by omega
  generalize (l.length : Int) = k at *
  go_enter Try.func11, Try.ntmps11
  go_wp2_with fail
  refine hc.mono ?_
  rintro e w1 ⟨r1, rfl, p, q⟩
  go_wp2_with fail
  refine (hd _ _ p).mono ?_
  rintro e w2 ⟨r2, rfl, p2, q2⟩
  go_wp2_with fail
  refine (hl _ _ p2).mono ?_
  rintro e w3 ⟨r3, rfl, p3, q3⟩
  go_wp2
  go_ret2
  exact ⟨r3, rfl, p3, (q.trans q2).trans q3⟩

theorem Sp.tell {w : World} {b : Nat} {r : Option Nat} {bs : List UInt8} {told : Nat} (h : Sp w b r bs told) (k : Nat) : Sp (w.setCell ⟨b, 2, none⟩ (.int .i64 k)) b r bs k := by
  have hlt := h.row_lt
  obtain ⟨p, v, hp, hb, hown, hr, hn⟩ := h
  refine ⟨p, v, hp, by simp [World.setCell, Array.getElem?_modify, hb], ?_, hr, hn⟩
  exact hown.kept (row := some b) ⟨rfl, rfl, rfl, by simp [World.setCell], fun k _ hk => Below.heap_setCell _ _ _ _ (fun e => hk (by simp [e]))⟩ (Or.inr (ownBlock_neF hown hb (by decide)))

theorem extract_mid (l : List UInt8) (k : Nat) : (⟨l.toArray⟩ : ByteArray).extract 2 (2 + k) = ⟨((l.drop 2).take k).toArray⟩ := by
  apply ByteArray.ext
  rw [ByteArray.data_extract]
  simp

set_option maxHeartbeats 1000000 in
theorem next_some (b : Nat) (r : Option Nat) (m : Nat) (l : List UInt8) (k : Nat) (w : World) (h : St w b r m l) (hh : has l = true) (hb : bad l = false) (hk : num l = k) (hs : 2 + k ≤ l.length) :
    Calls Try.prog 11 #[.pointer (some ⟨b, 0, none⟩)] w (St.Post b r m (l.drop (2 + k)) (.tuple #[.string ⟨((l.drop 2).take k).toArray⟩, .bool true]) w) := by
  have hc := length_st b r m l w h
  have hd := fun r1 w1 h1 => bad_any b r1 m l w1 h1
  have hl := fun r1 w1 h1 => left_st b r1 m l w1 h1
  have hn1 := num_le l
  rw [hh] at hc
  rw [hb] at hd
  rw [hk] at hc hn1
  clear hh h hb hk
  have hlt : (2 : Int) + (k : Int) ≤ (l.length : Int) := by omega
  go_enter Try.func11, Try.ntmps11
  go_wp2_with fail
  refine hc.mono ?_
  rintro e w1 ⟨r1, rfl, p, q⟩
  go_wp2_with fail
  refine (hd _ _ p).mono ?_
  rintro e w2 ⟨r2, rfl, p2, q2⟩
  go_wp2_with fail
  refine (hl _ _ p2).mono ?_
  rintro e w3 ⟨r3, rfl, p3, q3⟩
  obtain ⟨bs, told, h1, h2, h3, h4, h5⟩ := p3.of
  have hr := rest_any b r3 bs told w3 h5 (by omega) (by omega)
  rw [h4] at hr
  have H4 := Lib.hid h4
  have hm1 : (bs.length : Int) ≤ 140737488355328 := by omega
  have ht1 : (told : Int) + (2 + (k : Int)) ≤ 140737488355328 + 65537 := by omega
  clear h4 h5 p p2 p3 hc hd hl
  go_wp2_with fail
  refine hr.mono ?_
  rintro e w4 ⟨rfl, p4, q4⟩
  have t4 := p4.told_
  have f4 := p4.free
  clear hr
  go_wp2
  go_ret2
  refine ⟨r3, ?_, ⟨bs, told + (2 + k), h1, ?_, h3, ?_, ?_⟩, ((q.trans q2).trans q3).trans (q4.setCell 2 _)⟩
  · rw [← extract_mid]; rfl
  · have := congrArg List.length H4.out
    rw [List.length_drop] at this
    omega
  · rw [← H4.out, List.drop_drop]
  · have h := p4.tell (told + (2 + k))
    simpa using h

theorem next_any (b : Nat) (r : Option Nat) (m : Nat) (l : List UInt8) (w : World) (h : St w b r m l) :
    Calls Try.prog 11 #[.pointer (some ⟨b, 0, none⟩)] w (nextPost b r m l w) := by
  unfold nextPost next
  cases hh : has l with
  | false => simpa [hh] using next_none1 b r m l w h hh
  | true =>
    cases hb : bad l with
    | true => simpa [hh, hb] using next_none2 b r m l w h hh hb
    | false =>
      by_cases hs : 2 + num l ≤ l.length
      · have hn := num_nn l
        have := next_some b r m l (num l).toNat w h hh hb (by omega) (by omega)
        simpa [hh, hb, hs] using this
      · simpa [hh, hb, hs] using next_none3 b r m l w h hh hb hs
end Go.Proofs.Yteclngkfiaoidaa
