/- The walk of FrameParts; condition: its arguments are slices of strings, and of bytes. -/
import Derived.Test.YteclngkfiaoidaaGd
import Derived.Deep.AppendLies
import Derived.Deep.RegionHeld3
import Derived.Deep.LoopGhost
namespace Go.Proofs.Yteclngkfiaoidaa
open Go.RowKit Go.Lib
set_option linter.unusedVariables false
set_option linter.unusedSimpArgs false

theorem infoStr : (Try.prog.info? 9).map (fun i => (i.zero, i.size, i.bytes)) = some (some (.string ByteArray.empty), 1, 16) := by kernel_rfl

/-- Texts in frames, one behind the other. -/
def catF : List ByteArray → List UInt8
  | [] => []
  | x :: t => (framed x).data.toList ++ catF t
theorem catF_append (a : List ByteArray) (x : ByteArray) : catF (a ++ [x]) = catF a ++ (framed x).data.toList := by
  induction a with
  | nil => simp [catF]
  | cons y t ih => simp [catF, ih]
def Fits (ws : List ByteArray) : Prop := ∀ x ∈ ws, 0 < x.size ∧ x.size ≤ 300
def strs (ws : List ByteArray) : List Value := ws.map .string
theorem strs_append (a b : List ByteArray) : strs (a ++ b) = strs a ++ strs b := by simp [strs]
theorem strs_length (a : List ByteArray) : (strs a).length = a.length := by simp [strs]
theorem strs_one (a : List ByteArray) : ∀ u ∈ strs a, u.oneCell' = true := by
  intro u hu
  simp only [strs, List.mem_map] at hu
  obtain ⟨b, _, rfl⟩ := hu
  rfl

theorem catF_cons (x : ByteArray) (t : List ByteArray) : catF (x :: t) = hdr x.data.toList.length ++ (x.data.toList ++ catF t) := by
  show (framed x).data.toList ++ catF t = _
  rw [list_framed, List.append_assoc]

theorem head_two {l T r : List UInt8} {n : Nat} (h : l ++ T = hdr n ++ r) (h2 : 2 ≤ l.length) : ∃ l2, l = hdr n ++ l2 ∧ l2 ++ T = r := by
  match l, h2 with
  | a :: b :: l2, _ =>
    have e : a :: b :: (l2 ++ T) = hdr n ++ r := h
    unfold hdr at e ⊢
    simp only [List.cons_append, List.nil_append, List.cons.injEq] at e ⊢
    exact ⟨l2, ⟨e.1, e.2.1, rfl⟩, e.2.2⟩

theorem inv_bad {l T : List UInt8} {todo : List ByteArray} (h : l ++ T = catF todo) (hF : Fits todo) : bad l = false := by
  cases hh : has l with
  | false => unfold bad; rw [hh]; rfl
  | true =>
    have h2 : 2 ≤ l.length := by simpa [has] using hh
    cases todo with
    | nil =>
      have : l = [] := (List.append_eq_nil_iff.1 (show l ++ T = [] from h)).1
      rw [this] at h2; simp at h2
    | cons x t =>
      rw [catF_cons] at h
      obtain ⟨l2, rfl, _⟩ := head_two h h2
      have hx := hF x (by simp)
      rw [bad_hdr _ (by rw [size_list]; omega), size_list]
      have g1 : (x.size == 0) = false := by rw [beq_eq_false_iff_ne]; omega
      have g2 : decide (1024 < x.size) = false := by rw [decide_eq_false_iff_not]; omega
      rw [g1, g2]; rfl

theorem inv_some {l T t l' : List UInt8} {todo : List ByteArray} (h : l ++ T = catF todo) (hF : Fits todo) (hn : next l = some (t, l')) :
    ∃ x todo', todo = x :: todo' ∧ t = x.data.toList ∧ l' ++ T = catF todo' := by
  have hlen := next_len hn
  have h2 : 2 ≤ l.length := by omega
  cases todo with
  | nil =>
    have : l = [] := (List.append_eq_nil_iff.1 (show l ++ T = [] from h)).1
    rw [this] at h2; simp at h2
  | cons x todo' =>
    rw [catF_cons] at h
    obtain ⟨l2, rfl, h3⟩ := head_two h h2
    have hx := hF x (by simp)
    have hnum := num_hdr x.data.toList.length (by rw [size_list]; omega) l2
    have e := hn
    unfold next at e
    split at e
    · injection e with e
      injection e with e1 e2
      rw [hnum] at e1 e2 hlen
      rw [Int.toNat_natCast] at e1 e2
      have hl2 : x.data.toList.length ≤ l2.length := by
        have := hlen.1
        rw [List.length_append] at this
        have h4 : (hdr x.data.toList.length).length = 2 := rfl
        omega
      have e3 : (hdr x.data.toList.length ++ l2).drop 2 = l2 := rfl
      rw [← List.drop_drop, e3] at e2
      rw [e3] at e1
      refine ⟨x, todo', rfl, ?_, ?_⟩
      · rw [← e1]
        have := congrArg (List.take x.data.toList.length) h3
        rw [List.take_append_of_le_length hl2, List.take_left] at this
        exact this
      · rw [← e2]
        have := congrArg (List.drop x.data.toList.length) h3
        rw [List.drop_append_of_le_length hl2, List.drop_left] at this
        exact this
    · cases e

theorem inv_end {l : List UInt8} {todo : List ByteArray} (h : l ++ [] = catF todo) (hF : Fits todo) (hn : next l = none) : todo = [] ∧ l = [] := by
  rw [List.append_nil] at h
  cases todo with
  | nil => exact ⟨rfl, h⟩
  | cons x t =>
    exfalso
    rw [h, catF_cons] at hn
    have hx := hF x (by simp)
    rw [next_hdr _ _ (by rw [size_list]; omega) (by rw [size_list]; omega)] at hn
    cases hn

structure W1 (w wr : World) (v : Value) (ws : List ByteArray) : Prop where
  own : wr.ownsRow w.heap.size 9 1 v ws.length (strs ws)
  bel : Below w.heap.size w wr
theorem W1.grow {w wr wr' : World} {v : Value} {ws : List ByteArray} (h : W1 w wr v ws) (k : Below wr.heap.size wr wr') : W1 w wr' v ws := by
  refine ⟨?_, h.bel.trans (k.mono h.bel.size)⟩
  refine ⟨h.own.1, ?_⟩
  rcases h.own.2 with h0 | ⟨g, cap, cur, hv, hg, hh, rest⟩
  · exact .inl h0
  · exact .inr ⟨g, cap, cur, hv, hg, (k.block g (Array.getElem?_eq_some_iff.1 hh).1).trans hh, rest⟩

theorem W1.new {w w1 : World} (h : Below w.heap.size w w1) : W1 w (w1.alloc (.cells #[] 9)) (.slice (some ⟨w1.heap.size, 0, none⟩) 0 0) [] :=
  ⟨⟨rfl, .inr ⟨w1.heap.size, 0, #[], rfl, h.size, heap_alloc_new w1 _, Nat.le_refl _, Nat.zero_le _, rfl, rfl⟩⟩, h.alloc h.size _⟩

/-- The state of the splitter, of what is still to be pushed (T), and of what came out. -/
theorem empty_ex (s : ByteArray) : s.extract s.size s.size = ByteArray.empty := by
  apply ByteArray.ext
  rw [ByteArray.data_extract]
  simp

theorem own_form {w : World} {base : Nat} {e : TypeId} {size : Nat} {v : Value} {n : Nat} {xs : List Value} (h : w.ownsRow base e size v n xs) : ∃ a c, v = .slice a n c := by
  rcases h.2 with ⟨h1, h2⟩ | ⟨g, cap, cur, h1, _⟩
  · exact ⟨none, 0, by rw [h1, h2]⟩
  · exact ⟨_, _, h1⟩
theorem St.lt' {w : World} {b : Nat} {r : Option Nat} {m : Nat} {l : List UInt8} (h : St w b r m l) : b + 1 ≤ w.heap.size := by
  obtain ⟨bs, told, h1, h2, h3, h4, h5⟩ := h
  exact h5.lt

structure W2 (B : Nat) (w0 : World) (b : Nat) (ws : List ByteArray) (r : Option Nat) (m : Nat) (l T : List UInt8) (n : Nat) (gv : Value) (w : World) : Prop where
  own : Own B w0 b r m l w
  got : w.ownsRow (b + 1) 9 1 gv n (strs (ws.take n))
  inv : l ++ T = catF (ws.drop n)
  le : n ≤ ws.length

theorem rows_ne {w : World} {b : Nat} {r : Option Nat} {m : Nat} {l : List UInt8} (h : St w b r m l) {base : Nat} {v : Value} {n : Nat} {xs : List Value} (hv : w.ownsRow base 9 1 v n xs) : (∀ g, v.ownBlock = some g → g ≠ b ∧ some g ≠ r) := by
  intro g hg
  obtain ⟨bs, told, _, _, _, _, p, v', _, hb, hown, hr, _⟩ := h
  rcases hv.2 with ⟨rfl, _⟩ | ⟨g', cap, cur, rfl, _, hh, _⟩
  · simp [Value.ownBlock] at hg
  · obtain rfl : g' = g := by simpa [Value.ownBlock] using hg
    constructor
    · rintro rfl
      rw [hh] at hb
      simp only [Option.some.injEq, Obj.cells.injEq] at hb
      exact absurd hb.2.1 (by decide)
    · intro e
      rw [← hr] at e
      rcases hown.2 with ⟨rfl, _⟩ | ⟨g2, cap2, cur2, fz, rfl, _, h2, _⟩
      · simp [Value.ownBlock] at e
      · obtain rfl : g' = g2 := by simpa [Value.ownBlock] using e
        rw [hh] at h2
        simp only [Option.some.injEq, Obj.cells.injEq] at h2
        exact absurd h2.2.1 (by decide)

theorem row_mv {w w' : World} {b : Nat} {r r' : Option Nat} {m : Nat} {l : List UInt8} (h : St w b r m l) (k : Mv b r w r' w') {base : Nat} {v : Value} {n : Nat} {xs : List Value} (hv : w.ownsRow base 9 1 v n xs) : w'.ownsRow base 9 1 v n xs := by
  have hne := rows_ne h hv
  refine ⟨hv.1, ?_⟩
  rcases hv.2 with h0 | ⟨g, cap, cur, rfl, hg, hh, rest⟩
  · exact .inl h0
  · obtain ⟨n1, n2⟩ := hne g rfl
    exact .inr ⟨g, cap, cur, rfl, hg, (k.block g (Array.getElem?_eq_some_iff.1 hh).1 n1 n2).trans hh, rest⟩

section
variable {B : Nat} {w0 w w' : World} {b : Nat} {ws : List ByteArray} {r r' : Option Nat} {m m' : Nat} {l T l' T' : List UInt8} {n : Nat} {gv : Value}
theorem W2.step (h : W2 B w0 b ws r m l T n gv w) (hs : St w' b r' m' l') (hm : Mv b r w r' w') (hi : l' ++ T' = catF (ws.drop n)) : W2 B w0 b ws r' m' l' T' n gv w' :=
  ⟨h.own.step hs hm, row_mv h.own.st hm h.got, hi, h.le⟩
/-- A frame has come, and is laid behind what came. -/
theorem W2.put (ho : Own B w0 b r m l w) (hgo : w.ownsRow (b + 1) 9 1 gv n (strs (ws.take n))) {w1 : World} {gv' : Value} {x : ByteArray} {todo' : List ByteArray} (hx : ws.drop n = x :: todo') (hi : l ++ T = catF todo') {o : Obj}
    (hg : w1.ownsRow (b + 1) 9 1 gv' (n + 1) (strs (ws.take n) ++ [.string x])) (hw : (w.alloc o).grownBy w1 gv.ownBlock) : W2 B w0 b ws r m l T (n + 1) gv' w1 := by
  have hs := ho.grow (Below.alloc (Below.refl w.heap.size w) (Nat.le_refl _) o)
  have hgot : (w.alloc o).ownsRow (b + 1) 9 1 gv n (strs (ws.take n)) := hgo.alloc o
  have hne := rows_ne hs.st hgot
  have hlt : n < ws.length := by
    have := congrArg List.length hx
    simp at this; omega
  have hxe : ws[n] = x := by
    have := List.drop_eq_getElem_cons hlt
    rw [hx] at this
    injection this with h1 h2
    exact h1.symm
  have htd : ws.drop (n + 1) = todo' := by
    have := List.drop_eq_getElem_cons hlt
    rw [hx] at this
    injection this with h1 h2
    exact h2.symm
  refine ⟨⟨?_, ?_, hs.blk, hs.row, Nat.le_trans hs.siz hw.size⟩, ?_, by rw [htd]; exact hi, by omega⟩
  · obtain ⟨bs, told, h1, h2, h3, h4, h5⟩ := hs.st
    refine ⟨bs, told, h1, h2, h3, h4, h5.keep (hw.block _ h5.lt (fun e => (hne b e.symm).1 rfl)) (fun k hk => hw.block _ (h5.row_lt k hk).1 (fun e => (hne k e.symm).2 hk.symm))⟩
  · refine hs.bel.grown hw hs.siz (fun k hk => ?_)
    have := (hgot.lt k hk).1
    have := hs.blk
    omega
  · rw [List.take_succ_eq_append_getElem hlt, strs_append, hxe]
    exact hg
end

set_option maxRecDepth 100000 in
set_option maxHeartbeats 8000000 in
theorem parts_walk (A A2 : Option Addr) (ss : List ByteArray) (cuts : List Int) (cap cap2 : Nat) (w : World) (hl : IsStrs w A ss.length cap ss) (ha : IsInts .u8 w A2 cuts.length cap2 cuts) :
    Calls Try.prog 5 #[.slice A ss.length cap, .slice A2 cuts.length cap2] w fun e w' => e = .returned (.bool true) ∧ Below w.heap.size w w' := by
  by_cases h : 20 < ss.length
  · clear hl ha
    go_enter Try.func5, Try.ntmps5
    go_wp2_with fail
    refine (shown_any _).mono ?_
    rintro e w1 ⟨rfl, hb⟩
    go_wp2
    go_ret
    exact ⟨rfl, hb⟩
  · by_cases h2 : 100 < cuts.length
    · clear hl ha
      go_enter Try.func5, Try.ntmps5
      go_wp2_with fail
      refine (shown_any _).mono ?_
      rintro e w1 ⟨rfl, hb⟩
      go_wp2
      go_ret
      exact ⟨rfl, hb⟩
    · obtain ⟨_, hlc, hcm, _, hcell, hsm⟩ := hl
      obtain ⟨_, hlc2, hcm2, _, hcell2, hwf2⟩ := ha
      have HC := Lib.hid hcell
      have HA := Lib.hid hcell2
      have HW := Lib.hid hwf2
      have HSM := Lib.hid hsm
      clear hcell hcm hlc hcell2 hcm2 hlc2 hwf2 hsm
      have hlen : ss.length ≤ 20 := by omega
      have hlen2 : cuts.length ≤ 100 := by omega
      go_enter Try.func5, Try.ntmps5
      go_wp2_with fail
      refine (shown_any _).mono ?_
      rintro e w1 ⟨rfl, hb⟩
      have HB := Lib.hid hb
      clear hb
      go_wp2_with fail
      go_loopw [5, 6, 7] (fun s5 s6 s7 wr => ∃ (i : Nat) (S : ByteArray) (ws : List ByteArray) (v : Value), i ≤ ss.length ∧ s7 = .int .i64 i ∧ s5 = .string S ∧ v = s6 ∧ S.size ≤ 302 * i ∧ ws.length ≤ i ∧ Hid (S.data.toList = catF ws) ∧ Hid (Fits ws) ∧ Hid (W1 w wr v ws)) (fun _ _ s7 _ => ss.length - (intOf s7).toNat)
      case atStart => exact ⟨0, ⟨#[]⟩, [], _, by omega, rfl, rfl, rfl, by decide, by simp, Lib.hid rfl, Lib.hid (by intro x hx; cases hx), Lib.hid (W1.new HB.out)⟩
      case round =>
        clear HB
        obtain ⟨i, S, ws, v, hi, rfl, rfl, rfl, hS, hws, HS, HF, HW1⟩ := hrel
        by_cases hlt : i < ss.length
        · obtain ⟨ab, off, rfl, hab, hc⟩ := HC.out i hlt
          have hsm := HSM.out (ss.getD i ByteArray.empty) (by rw [List.getD_eq_getElem?_getD, List.getElem?_eq_getElem hlt]; simp)
          unfold maxLen at hsm
          have hcw : ∀ W, Below w.heap.size w W → W.cell? ⟨ab, off + i, none⟩ = some (.string (ss.getD i ByteArray.empty)) := fun W hb => (hb.cell (p := ⟨ab, off + i, none⟩) hab).trans hc
          generalize ss.getD i ByteArray.empty = s at *
          have c1 := hcw _ HW1.out.bel
          have HCW := Lib.hid hcw
          have HAB := Lib.hid hab
          have hi1 : (0 : Int) ≤ (i : Int) := by omega
          have hi2 : (i : Int) < (ss.length : Int) := by omega
          clear hc hcw hab
          obtain ⟨q, hq, hq1, hq2⟩ : ∃ q : Nat, min (s.size : Int) 300 = (q : Int) ∧ q ≤ s.size ∧ q ≤ 300 := ⟨min s.size 300, by omega, by omega, by omega⟩
          have hq3 : (q : Int) ≤ (s.size : Int) := by omega
          have hq4 : (0 : Int) ≤ (q : Int) := by omega
          have hq5 : min s.size 300 = q := by omega
          have hq6 : (if (300 : Int) < (s.size : Int) then (300 : Int) else (s.size : Int)) = (q : Int) := by split <;> omega
          go_wp2_with fail
          go_region_held3 (fun w' => w'.cell? ⟨ab, off + i, none⟩ = some (.string s) ∧ Hid (W1 w w' v ws)) (first | exact ⟨c1, Lib.hid (HW1.out.grow (below_drewN (Below.refl _ _) 1))⟩ | exact ⟨hk1, HK⟩ | assumption)
            (first | (go_at_call 13; have hh := ‹_ ∧ Hid (W1 w _ v ws)›; refine (put_any _ _).mono ?_; rintro e w2 ⟨rfl, hb2⟩; have HK := Lib.hid (hh.2.out.grow hb2); have hk1 := HCW.out _ HK.out.bel))
          obtain ⟨x, hx⟩ : ∃ x, s.extract 0 q = x := ⟨_, rfl⟩
          have hxs : x.size = q := by rw [← hx, ByteArray.size_extract]; omega
          rw [hx]
          clear hk1
          by_cases hq0 : q = 0
          · have e1 : putE x = 1 := by unfold putE; rw [if_pos (by omega)]
            rw [e1]
            clear e1 hx
            go_wp2
            go_roundw
            case rel => exact ⟨i + 1, S, ws, v, by omega, by go_num, rfl, rfl, by omega, by omega, HS, HF, HK⟩
            case measure => simp [intOf]; omega
          · have e1 : putE x = 0 := by unfold putE; rw [if_neg (by omega), if_neg (by omega)]
            have e2 : putV x = framed x := by unfold putV; rw [if_neg (by omega)]
            have hfs := size_framed x
            have hov : S.size + (framed x).size ≤ 9223372036854775807 := by omega
            have hcl := list_append S (framed x)
            rw [e1, e2]
            have hsz2 : (S ++ framed x).size = S.size + (framed x).size := by rw [← size_list, hcl, List.length_append, size_list, size_list]
            have HS2 : Hid ((S ++ framed x).data.toList = catF (ws ++ [x])) := Lib.hid (by rw [hcl, HS.out, catF_append])
            have HF2 : Hid (Fits (ws ++ [x])) := Lib.hid (by
              intro y hy
              rcases List.mem_append.1 hy with hy | hy
              · exact HF.out y hy
              · obtain rfl := List.mem_singleton.1 hy; omega)
            have hsz3 : (S ++ framed x).size ≤ 302 * (i + 1) := by omega
            have HSZ3 := Lib.hid hsz3
            have HQ0 := Lib.hid hq0
            have HXS := Lib.hid hxs
            generalize framed x = fx at *
            clear e1 e2 hcl hsz2 hfs HS hsz3 hq0 hxs
            obtain ⟨i0, hi0, hz0, hz1, hz2⟩ := info_parts infoStr
            have hkc := HCW.out _ HK.out.bel
            have hwn : ws.length ≤ 20 := by omega
            have hown := HK.out.own
            have hbs := HK.out.bel.size
            have HXX := Lib.hid hx
            go_wp2_with fail
            have hlab : ab < w2.heap.size := World.block_lt_of_cell? w2 _ hkc
            have hne : v.ownBlock ≠ some ab := by
              intro e
              have := HK.out.own.lt ab e
              have := HAB.out
              omega
            go_region_held3 (fun w' => w'.cell? ⟨ab, off + i, none⟩ = some (.string s))
              (first
                | go_keep
                | (rw [hgrow.cell_far _ (by simp; omega) (Ne.symm hne)]; assumption))
              ((refine step_append_lies _ (by rfl) _ _ _ (by rfl) w.heap.size 9 i0 _ 1 16 Try.underlying22 hi0 hz0 hz1 hz2 rfl (by omega) v ws.length (strs ws) (by rfl) ((hown.alloc _).drew)
                  ⟨w2.heap.size, 0, none⟩ 1 1 [.string x] (by rfl) (by rfl) (World.news_of_block (cs := #[.string x]) (t := 9) (fr := (0, 0)) (heap_alloc_new w2 _)) (by simp [Value.oneCell'])
                  (by omega) (by unfold maxLen; omega) (by omega) (by simp; omega) (w2.heap.size + 1) (by simp) ?_; intro gg cap' w4 hown1 hgrow hat hlt))
            have HW4 : Hid (W1 w w4 (.slice (some ⟨gg, 0, none⟩) (ws.length + 1) cap') (ws ++ [x])) := Lib.hid
              ⟨by rw [List.length_append, strs_append]; exact hown1,
                ((((HK.out.bel.alloc hbs _).drew).grown hgrow (by simp; omega) (fun k hk => (HK.out.own.lt k hk).1)))⟩
            clear hown1 hgrow hat hlt hown hkc hne
            go_wp2
            go_roundw
            case rel => exact ⟨i + 1, S ++ fx, ws ++ [x], .slice (some ⟨gg, 0, none⟩) (ws.length + 1) cap', by omega, by go_num, rfl, rfl, HSZ3.out, by rw [List.length_append]; show ws.length + 1 ≤ _; omega, HS2, HF2, HW4⟩
            case measure => simp [intOf]; omega
        · obtain ⟨w9, rfl⟩ : ∃ w9 : World, w9 = wr := ⟨_, rfl⟩
          have hsz5 : S.size ≤ 6040 := by omega
          have hW2 : W2 w9.heap.size w9 w9.heap.size ws none 0 [] S.data.toList 0 (.slice (some ⟨w9.heap.size + 1, 0, none⟩) 0 0) ((w9.alloc (.cells #[.pointer none, .slice none 0 0, .int .i64 0] 32)).alloc (.cells #[] 9)) := by
            refine ⟨(Own.new (Below.refl w9.heap.size w9)).grow (Below.alloc (Below.refl _ _) (Nat.le_refl _) _), ?_, ?_, Nat.zero_le _⟩
            · exact ⟨rfl, .inr ⟨w9.heap.size + 1, 0, #[], rfl, Nat.le_refl _, by have := heap_alloc_new (w9.alloc (.cells #[.pointer none, .slice none 0 0, .int .i64 0] 32)) (.cells #[] 9); simpa using this, Nat.le_refl _, Nat.zero_le _, rfl, rfl⟩⟩
            · rw [List.nil_append, List.drop_zero]; exact HS.out
          have H2 := Lib.hid hW2
          clear hW2
          go_wp2_with fail
          go_loopw [5, 11, 12] (fun s5 s11 s12 wx => ∃ (S' : ByteArray) (gv : Value) (r : Option Nat) (l : List UInt8) (m n i2 : Nat), s5 = .string S' ∧ gv = s11 ∧ s12 = .int .i64 i2 ∧ i2 ≤ cuts.length + 1 ∧ Hid (0 < S'.size → i2 ≤ cuts.length) ∧ m + S'.size ≤ 6040 ∧ n ≤ ws.length ∧ Hid (next l = none) ∧ Hid (W2 w9.heap.size w9 w9.heap.size ws r m l S'.data.toList n gv wx)) (fun s5 _ s12 _ => (cuts.length - (intOf s12).toNat) + (match s5 with | .string q => q.size | _ => 0))
          case atStart => exact ⟨S, _, none, [], 0, 0, 0, rfl, rfl, rfl, by omega, Lib.hid (by omega), by omega, by omega, Lib.hid rfl, H2⟩
          case round =>
            clear H2
            obtain ⟨S', gv, r, l, m, n, i2, rfl, rfl, rfl, hi2, HI2, hms, hnl, HN, H2⟩ := hrel
            by_cases hs0 : 0 < S'.size
            · have hi3 := HI2.out hs0
              have hbad := inv_bad H2.out.inv (fun x hx => HF.out x (List.mem_of_mem_drop hx))
              have HBAD := Lib.hid hbad
              clear hbad
              obtain ⟨q, hq0, hq1, hq2⟩ : ∃ q : Nat, q ≤ S'.size ∧ (i2 < cuts.length → (q : Int) = min (S'.size : Int) (cuts.getD i2 0)) ∧ (¬ i2 < cuts.length → q = S'.size) := by
                by_cases hc : i2 < cuts.length
                · have hx := HW.out (cuts.getD i2 0) (by rw [List.getD_eq_getElem?_getD, List.getElem?_eq_getElem hc]; simp)
                  have := bounds_u8 hx
                  exact ⟨(min (S'.size : Int) (cuts.getD i2 0)).toNat, by omega, fun _ => by omega, fun h => absurd hc h⟩
                · exact ⟨S'.size, Nat.le_refl _, fun h => absurd h hc, fun _ => rfl⟩
              have hq3 : (q : Int) ≤ (S'.size : Int) := by omega
              have hq4 : (0 : Int) ≤ (q : Int) := by omega
              by_cases hc : i2 < cuts.length
              · obtain ⟨ab2, off2, rfl, hab2, hca⟩ := HA.out i2 hc
                have hca2 := ((HW1.out.bel.trans (H2.out.own.bel.mono HW1.out.bel.size)).cell (p := ⟨ab2, off2 + i2, none⟩) hab2).trans hca
                have hx := HW.out (cuts.getD i2 0) (by rw [List.getD_eq_getElem?_getD, List.getElem?_eq_getElem hc]; simp)
                have hxb := bounds_u8 hx
                have hqq := hq1 hc
                clear hq1 hq2 hca hx
                generalize cuts.getD i2 0 = c at *
                obtain ⟨cb0, cb1⟩ := hxb
                have hm1 : min (S'.size : Int) c = (q : Int) := hqq.symm
                have hm2 : (if c < (S'.size : Int) then c else (S'.size : Int)) = (q : Int) := by split <;> omega
                clear hqq
                go_wp2_with fail
                have hxs : (S'.extract 0 q).size = q := by rw [ByteArray.size_extract]; omega
                have hrs : (S'.extract q S'.size).size = S'.size - q := by rw [ByteArray.size_extract]; omega
                have e1 : (S'.extract 0 q).data.toList = S'.data.toList.take q := by rw [ByteArray.data_extract]; simp
                have e2 : (S'.extract q S'.size).data.toList = S'.data.toList.drop q := by rw [extract_end']
                have hinv : l ++ (S'.extract 0 q).data.toList ++ (S'.extract q S'.size).data.toList = catF (ws.drop n) := by
                  rw [e1, e2, List.append_assoc, List.take_append_drop]; exact H2.out.inv
                have HINV := Lib.hid hinv
                have HRS := Lib.hid hrs
                have HXS := Lib.hid hxs
                clear hinv e1 e2 hrs hxs
                refine (push_ok _ _ _ _ _ _ H2.out.own.st (by rw [HXS.out]; omega) HBAD.out).mono ?_
                rintro e w3 ⟨r3, rfl, p3, q3⟩
                have H3 := Lib.hid (H2.out.step p3 q3 HINV.out)
                rw [HXS.out] at H3
                clear H2 p3 q3 hca2 hm1 hm2
                generalize (S'.extract 0 q).data.toList = px at *
                obtain ⟨ga, gc, rfl⟩ := own_form H3.out.got
                go_wp2_with fail
                go_loopw [11] (fun s11 wy => ∃ (ga : Option Addr) (gc : Nat) (r4 : Option Nat) (l4 : List UInt8) (n4 : Nat), .slice ga n4 gc = s11 ∧ n4 ≤ ws.length ∧ Hid (W2 w9.heap.size w9 w9.heap.size ws r4 (m + q) l4 (S'.extract q S'.size).data.toList n4 (.slice ga n4 gc) wy)) (fun s11 _ => ws.length - (match s11 with | .slice _ n _ => n | _ => 0))
                case atStart => exact ⟨ga, gc, r3, _, n, rfl, by omega, H3⟩
                case round =>
                  clear H3
                  obtain ⟨ga4, gc4, r4, l4, n4, rfl, hn4, H4⟩ := hrel
                  cases hnx : next l4 with
                  | none =>
                    have hno := next_no _ _ _ _ _ H4.out.own.st hnx
                    have HNX := Lib.hid hnx
                    clear hnx
                    go_wp2_with fail
                    refine hno.mono ?_
                    rintro e w5 ⟨r5, rfl, p5, q5⟩
                    have H5 := Lib.hid (H4.out.step p5 q5 H4.out.inv)
                    clear H4 hno p5 q5
                    go_wp2
                    go_roundw
                    case rel => exact ⟨S'.extract q S'.size, _, _, _, m + q, n4, i2 + 1, rfl, rfl, by go_num, by omega, Lib.hid (by rw [HRS.out]; omega), by rw [HRS.out]; omega, hn4, HNX, H5⟩
                    case measure => simp [intOf]; have := HRS.out; first | omega | (rw [HRS.out]; omega) | (simp at this ⊢; omega)
                  | some tl =>
                    obtain ⟨t, l'⟩ := tl
                    obtain ⟨x, todo', hx1, hx2, hx3⟩ := inv_some H4.out.inv (fun y hy => HF.out y (List.mem_of_mem_drop hy)) hnx
                    have hyes := next_yes _ _ _ _ _ _ _ H4.out.own.st hnx
                    rw [hx2, ← of_list] at hyes
                    have HX1 := Lib.hid hx1
                    have HX3 := Lib.hid hx3
                    have hn5 : n4 < ws.length := by
                      have := congrArg List.length hx1
                      simp at this; omega
                    clear hnx hx1 hx2 hx3
                    go_wp2_with fail
                    refine hyes.mono ?_
                    rintro e w5 ⟨r5, rfl, p5, q5⟩
                    have hst := H4.out.own.st
                    have hgot5 := row_mv hst q5 H4.out.got
                    have hown5 := H4.out.own.step p5 q5
                    have H5 := Lib.hid (And.intro hgot5 hown5)
                    have hsz := hown5.siz
                    have hn6 : n4 ≤ 20 := by omega
                    obtain ⟨i0, hi0, hz0, hz1, hz2⟩ := info_parts infoStr
                    have hwsz : w9.heap.size + 1 ≤ w5.heap.size := hown5.st.lt'
                    clear H4 hyes p5 q5 hst hown5
                    go_wp2_with (at_builtin; refine wpList_append_lies _ (by rfl) _ _ _ (by rfl) (w9.heap.size + 1) 9 i0 _ 1 16 Try.underlying22 hi0 hz0 hz1 hz2 rfl (by omega) (.slice ga4 n4 gc4) n4 (strs (ws.take n4)) (by rfl) (hgot5.alloc _) ⟨w5.heap.size, 0, none⟩ 1 1 [.string x] (by rfl) (by rfl) (World.news_of_block (cs := #[.string x]) (t := 9) (fr := (0, 0)) (heap_alloc_new w5 _)) (by simp [Value.oneCell']) (by omega) (by unfold maxLen; omega) (by omega) (by simp; omega) (w5.heap.size + 1) (by simp) ?_; intro gg cap' w6 hown6 hgrow6 hat6 hlt6)
                    refine ⟨⟨some ⟨gg, 0, none⟩, cap', r5, l', n4 + 1, rfl, by omega, Lib.hid (W2.put H5.out.2 H5.out.1 HX1.out HX3.out hown6 hgrow6)⟩, ?_⟩
                    show ws.length - (n4 + 1) < ws.length - n4
                    omega
              · have hqq := hq2 hc
                clear hq1 hq2
                have hge : (cuts.length : Int) ≤ (i2 : Int) := by omega
                have hq5 : ((S'.size : Nat) : Int) = (q : Int) := by omega
                subst hqq
                clear hq5
                go_wp2_with fail
                have hxs : S'.size = S'.size := rfl
                have hrs : (S'.extract S'.size S'.size).size = S'.size - S'.size := by rw [ByteArray.size_extract]; omega
                have e1 : S'.data.toList = S'.data.toList.take S'.size := by rw [List.take_of_length_le (by rw [size_list]; omega)]
                have e2 : (S'.extract S'.size S'.size).data.toList = S'.data.toList.drop S'.size := by rw [extract_end']
                have hinv : l ++ (S').data.toList ++ (S'.extract S'.size S'.size).data.toList = catF (ws.drop n) := by
                  rw [e2, List.drop_of_length_le (by rw [size_list]; omega), List.append_nil]; exact H2.out.inv
                have HINV := Lib.hid hinv
                have HRS := Lib.hid hrs
                have HXS := Lib.hid hxs
                clear hinv e1 e2 hrs hxs
                refine (push_ok _ _ _ _ _ _ H2.out.own.st (by omega) HBAD.out).mono ?_
                rintro e w3 ⟨r3, rfl, p3, q3⟩
                have H3 := Lib.hid (H2.out.step p3 q3 HINV.out)
                clear H2 p3 q3 
                generalize S'.data.toList = px at *
                obtain ⟨ga, gc, rfl⟩ := own_form H3.out.got
                go_wp2_with fail
                go_loopw [11] (fun s11 wy => ∃ (ga : Option Addr) (gc : Nat) (r4 : Option Nat) (l4 : List UInt8) (n4 : Nat), .slice ga n4 gc = s11 ∧ n4 ≤ ws.length ∧ Hid (W2 w9.heap.size w9 w9.heap.size ws r4 (m + S'.size) l4 (S'.extract S'.size S'.size).data.toList n4 (.slice ga n4 gc) wy)) (fun s11 _ => ws.length - (match s11 with | .slice _ n _ => n | _ => 0))
                case atStart => exact ⟨ga, gc, r3, _, n, rfl, by omega, H3⟩
                case round =>
                  clear H3
                  obtain ⟨ga4, gc4, r4, l4, n4, rfl, hn4, H4⟩ := hrel
                  cases hnx : next l4 with
                  | none =>
                    have hno := next_no _ _ _ _ _ H4.out.own.st hnx
                    have HNX := Lib.hid hnx
                    clear hnx
                    go_wp2_with fail
                    refine hno.mono ?_
                    rintro e w5 ⟨r5, rfl, p5, q5⟩
                    have H5 := Lib.hid (H4.out.step p5 q5 H4.out.inv)
                    clear H4 hno p5 q5
                    go_wp2
                    go_roundw
                    case rel => exact ⟨ByteArray.empty, _, _, _, m + S'.size, n4, i2 + 1, rfl, rfl, by go_num, by omega, Lib.hid (fun h => absurd h (by decide)), by show m + S'.size + 0 ≤ _; omega, hn4, HNX, (by rw [← empty_ex S']; exact H5)⟩
                    case measure => simp [intOf]; omega
                  | some tl =>
                    obtain ⟨t, l'⟩ := tl
                    obtain ⟨x, todo', hx1, hx2, hx3⟩ := inv_some H4.out.inv (fun y hy => HF.out y (List.mem_of_mem_drop hy)) hnx
                    have hyes := next_yes _ _ _ _ _ _ _ H4.out.own.st hnx
                    rw [hx2, ← of_list] at hyes
                    have HX1 := Lib.hid hx1
                    have HX3 := Lib.hid hx3
                    have hn5 : n4 < ws.length := by
                      have := congrArg List.length hx1
                      simp at this; omega
                    clear hnx hx1 hx2 hx3
                    go_wp2_with fail
                    refine hyes.mono ?_
                    rintro e w5 ⟨r5, rfl, p5, q5⟩
                    have hst := H4.out.own.st
                    have hgot5 := row_mv hst q5 H4.out.got
                    have hown5 := H4.out.own.step p5 q5
                    have H5 := Lib.hid (And.intro hgot5 hown5)
                    have hsz := hown5.siz
                    have hn6 : n4 ≤ 20 := by omega
                    obtain ⟨i0, hi0, hz0, hz1, hz2⟩ := info_parts infoStr
                    have hwsz : w9.heap.size + 1 ≤ w5.heap.size := hown5.st.lt'
                    clear H4 hyes p5 q5 hst hown5
                    go_wp2_with (at_builtin; refine wpList_append_lies _ (by rfl) _ _ _ (by rfl) (w9.heap.size + 1) 9 i0 _ 1 16 Try.underlying22 hi0 hz0 hz1 hz2 rfl (by omega) (.slice ga4 n4 gc4) n4 (strs (ws.take n4)) (by rfl) (hgot5.alloc _) ⟨w5.heap.size, 0, none⟩ 1 1 [.string x] (by rfl) (by rfl) (World.news_of_block (cs := #[.string x]) (t := 9) (fr := (0, 0)) (heap_alloc_new w5 _)) (by simp [Value.oneCell']) (by omega) (by unfold maxLen; omega) (by omega) (by simp; omega) (w5.heap.size + 1) (by simp) ?_; intro gg cap' w6 hown6 hgrow6 hat6 hlt6)
                    refine ⟨⟨some ⟨gg, 0, none⟩, cap', r5, l', n4 + 1, rfl, by omega, Lib.hid (W2.put H5.out.2 H5.out.1 HX1.out HX3.out hown6 hgrow6)⟩, ?_⟩
                    show ws.length - (n4 + 1) < ws.length - n4
                    omega
            · have hz : S'.size = 0 := by omega
              have hT : S'.data.toList = [] := List.eq_nil_of_length_eq_zero (by rw [size_list]; exact hz)
              obtain ⟨htd, hle⟩ := inv_end (by rw [← hT]; exact H2.out.inv) (fun x hx => HF.out x (List.mem_of_mem_drop hx)) HN.out
              have hnn : n = ws.length := by
                have := congrArg List.length htd
                simp at this; omega
              subst hnn hle
              clear htd hT
              obtain ⟨ga, gc, rfl⟩ := own_form H2.out.got
              obtain ⟨wa, wc, rfl⟩ := own_form HW1.out.own
              go_wp2_with fail
              refine (left_st _ _ _ _ _ H2.out.own.st).mono ?_
              rintro e w10 ⟨r10, rfl, p10, q10⟩
              have H3 := Lib.hid (H2.out.step p10 q10 H2.out.inv)
              clear H2 p10 q10
              go_wp2_with fail
              refine (bad_any _ _ _ _ _ H3.out.own.st).mono ?_
              rintro e w11 ⟨r11, rfl, p11, q11⟩
              have H4 := Lib.hid (H3.out.step p11 q11 H3.out.inv)
              clear H3 p11 q11
              rw [show bad [] = false from rfl]
              have hgot := H4.out.got
              rw [List.take_length] at hgot
              have hwant : w11.ownsRow w.heap.size 9 1 (.slice wa ws.length wc) ws.length (strs ws) := (HW1.out.grow H4.out.own.bel).own
              have hbel := HW1.out.bel.trans (H4.out.own.bel.mono HW1.out.bel.size)
              have HG := Lib.hid hgot
              have HWN := Lib.hid hwant
              have HBL := Lib.hid hbel
              clear H4 hgot hwant hbel
              have hwl : ws.length ≤ 20 := by omega
              go_wp2_with fail
              go_loopw [16] (fun s16 wz => ∃ (j k : Nat), s16 = .int .i64 j ∧ j ≤ ws.length ∧ wz = w11.drewN k) (fun s16 _ => ws.length - (intOf s16).toNat)
              case atStart => exact ⟨0, 0, rfl, by omega, rfl⟩
              case round =>
                obtain ⟨j, k, rfl, hj, rfl⟩ := hrel
                by_cases hlt2 : j < ws.length
                · obtain ⟨gg, gcap, he, _, _⟩ := HG.out.form (by omega)
                  obtain ⟨gw, wcap, he2, _, _⟩ := HWN.out.form (by omega)
                  injection he with he _ he4
                  injection he2 with he2 _ he3
                  subst he he2 he3 he4
                  have hx : (strs ws)[j]? = some (.string (ws.getD j ByteArray.empty)) := by
                    simp [strs, List.getD_eq_getElem?_getD, hlt2]
                  have c1 := HG.out.cells (g := gg) rfl j _ hx
                  have c2 := HWN.out.cells (g := gw) rfl j _ hx
                  rw [Go.WideShapes.add_plain, Nat.zero_add] at c1 c2
                  generalize ws.getD j ByteArray.empty = x at *
                  have hj1 : (0 : Int) ≤ (j : Int) := by omega
                  have hj2 : (j : Int) < (ws.length : Int) := by omega
                  clear hx
                  go_wp2_with fail
                  go_quiet (fail)
                  go_wp2
                  go_roundw
                  case rel => exact ⟨j + 1, _, by go_num, by omega, rfl⟩
                  case measure => simp [intOf]; omega
                · go_wp2
                  go_ret
                  exact ⟨rfl, HBL.out.trans (below_drewN (Below.refl _ _) _)⟩
end Go.Proofs.Yteclngkfiaoidaa
