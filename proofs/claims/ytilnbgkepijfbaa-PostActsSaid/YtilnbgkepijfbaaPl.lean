/- The walk of PostOrder; no condition. -/
import Derived.Test.YtilnbgkepijfbaaPk
namespace Go.Proofs.Ytilnbgkepijfbaa
open Go.RowKit
set_option linter.unusedVariables false
set_option linter.unusedSimpArgs false

theorem infoInt : ∃ i, Try.prog.info? 3 = some i ∧ i.zero = some (.int .i64 0) ∧ i.size = 1 ∧ i.bytes = 8 := by
  have h : (Try.prog.info? 3).map (fun i => (i.zero, i.size, i.bytes)) = some (some (.int .i64 0), 1, 8) := by kernel_rfl
  obtain ⟨i, hi, hzz⟩ := Option.map_eq_some_iff.1 h
  simp only [Prod.mk.injEq] at hzz
  exact ⟨i, hi, hzz.1, hzz.2.1, hzz.2.2⟩
theorem wpList_copy_ints {ops : Array Oper} {rest : List Oper} {o : Oper} {a : Act} {Q : Exit → Act → World → Prop} (hgd : o.guard = none) (s x : Operand)
    (ho : o.op = .call { callee := .builtin .append, args := #[s, x], argTypes := #[26, 26] }) (w : World) (hs : a.eval s = .slice (some ⟨w.heap.size, 0, none⟩) 0 0)
    (ad : Addr) (c : Nat) (l : List Int) (hl8 : l.length ≤ 8) (hx : a.eval x = .slice (some ad) l.length c) (hnews : ∀ (j : Nat) (u : Value), (ints l)[j]? = some u → (w.alloc (.cells #[] 3)).cell? (ad.add j) = some u)
    (h : ∀ ad' c' w', w'.ownsRow w.heap.size 3 1 (.slice ad' l.length c') l.length (ints l) → (w.alloc (.cells #[] 3)).grownBy w' (some w.heap.size) → wpList Try.prog ops Q rest (a.put o.dst (.slice ad' l.length c')) w') :
    wpList Try.prog ops Q (o :: rest) a (w.alloc (.cells #[] 3)) := by
  obtain ⟨i0, hi0, hz0, hz1, hz2⟩ := infoInt
  refine wpList_append_own _ hgd s x 26 ho w.heap.size 3 i0 _ 1 8 Try.underlying26 hi0 hz0 hz1 hz2 rfl (by omega) _ 0 [] hs (World.ownsRow_made (base := w.heap.size) (e := 3) (size := 1) w #[] 0 (Nat.le_refl _) (by unfold maxLen; omega) (by simp)) ad l.length c (ints l) hx (by simp [ints]) hnews (by
    intro u hu
    simp [ints] at hu
    obtain ⟨q, _, rfl⟩ := hu
    rfl) (by unfold maxLen; omega) (by omega) (by simp) ?_
  intro v' w' hown hgrow _
  have hown' : w'.ownsRow w.heap.size 3 1 v' l.length (ints l) := by simpa using hown
  obtain ⟨ad', c', rfl, _⟩ := view hown'
  exact h ad' c' w' hown' hgrow

theorem sum3 (n0 n1 n2 : Nat) (h0 : n0 ≤ 8) (h1 : n1 ≤ 8) (h2 : n2 ≤ 8) : (((n0 : Int) + (n1 : Int) + (n2 : Int)) == IntKind.i64.wrap (IntKind.i64.wrap ((n0 : Int) + (n1 : Int)) + (n2 : Int))) = true := by
  have e1 : IntKind.i64.wrap ((n0 : Int) + (n1 : Int)) = (n0 : Int) + (n1 : Int) := by rw [IntKind.wrap_i64]; omega
  rw [e1]
  have e2 : IntKind.i64.wrap ((n0 : Int) + (n1 : Int) + (n2 : Int)) = (n0 : Int) + (n1 : Int) + (n2 : Int) := by rw [IntKind.wrap_i64]; omega
  rw [e2]
  exact beq_self_eq_true _

/-- The state of the law's loop. -/
structure Turn (w : World) (g rb sb : Nat) (v : Nat → Value) (S : Nat → List Int) (wr : World) : Prop where
  mine : Mine w g rb (bsOf S) wr
  sent : Sent w.heap.size sb v S wr
  sb' : w.heap.size ≤ sb
  few : ∀ j, j < 3 → (S j).length ≤ 8

theorem below_drewN {B : Nat} {a w : World} (h : Below B a w) (n : Nat) : Below B a (w.drewN n) := ⟨h.os, h.tape, h.output, h.size, h.block⟩

set_option maxRecDepth 100000 in
set_option maxHeartbeats 8000000 in
theorem order_walk (a0 : Option Addr) (z : List Int) (cap : Nat) (w : World) (h : IsInts .i16 w a0 z.length cap z) :
    Calls Try.prog 3 #[.slice a0 z.length cap] w fun e w' => e = .returned (.bool true) ∧ Below w.heap.size w w' := by
  obtain ⟨_, hcap, hmax, hnil, hat, hwf⟩ := h
  have HAT := Lib.hid hat
  have HWF := Lib.hid hwf
  clear hat hwf hnil
  have hsh := shown_any w
  have hlm : (z.length : Int) ≤ 9223372036854775807 := by simp [maxLen] at hmax; omega
  by_cases hbig : z.length > 300
  · have hb2 : (z.length : Int) > 300 := by omega
    go_enter Try.func3, Try.ntmps3
    go_wp2_with fail
    refine hsh.mono ?_
    rintro e w1 ⟨rfl, hb1⟩
    go_wp2
    go_ret
    exact ⟨rfl, hb1⟩
  · have hb2 : ¬ (z.length : Int) > 300 := by omega
    have hb3 : (z.length : Int) ≤ 300 := by omega
    clear hbig hmax
    go_enter Try.func3, Try.ntmps3
    go_wp2_with fail
    refine hsh.mono ?_
    rintro e w1 ⟨rfl, hb1⟩
    have HB1 := Lib.hid hb1
    clear hb1 hsh
    go_wp2_with fail
    refine (new_any 3 w1 (by omega) (by omega)).mono ?_
    intro e w2 h1
    obtain ⟨g, rb, rfl, HM⟩ := h1.mine HB1.out
    clear h1 HB1
    have HM := Lib.hid (show Mine w g rb (bsOf fun _ => []) w2 from HM)
    go_wp2
    have HT : Hid (Turn w g rb w2.heap.size (fun _ => .slice none 0 0) (fun _ => []) (w2.alloc (.cells #[.slice none 0 0, .slice none 0 0, .slice none 0 0] 27))) :=
      Lib.hid ⟨HM.out.alloc _, ⟨Blk.new w2 _ 27 _ rfl, fun j _ => World.ownsRow_nil _ _ _ _, fun _ _ _ _ _ => .inl rfl⟩, HM.out.b.size, fun _ _ => by simp⟩
    generalize w2.heap.size = sb at *
    clear HM
    generalize w2.alloc (.cells #[.slice none 0 0, .slice none 0 0, .slice none 0 0] 27) = w3 at *
    go_loopw [5] (fun s5 wr => ∃ (i : Nat) (v : Nat → Value) (S : Nat → List Int), Value.int .i64 i = s5 ∧ i ≤ z.length ∧ Hid (Turn w g rb sb v S wr)) (fun s5 _ => z.length - (intOf s5).toNat)
    case atStart => exact ⟨0, _, _, rfl, by omega, HT⟩
    case round =>
      clear HT
      obtain ⟨i, v, S, hs, hi, HT⟩ := hrel
      subst hs
      by_cases hlt : i < z.length
      · have hi1 : (i : Int) < (z.length : Int) := by omega
        have hi0 : (0 : Int) ≤ (i : Int) := by omega
        obtain ⟨b, off, rfl, hblt, hcell⟩ := HAT.out i hlt
        have c0 := (HT.out.mine.b.cell (p := ⟨b, off + i, none⟩) hblt).trans hcell
        have hx := HWF.out (z.getD i 0) (by simp [List.getD_eq_getElem?_getD, hlt])
        generalize z.getD i 0 = x at *
        have hx0 : -32768 ≤ x ∧ x ≤ 32767 := by simp [Lit.wf, show IntKind.i16.min = -32768 from rfl, show IntKind.i16.max = 32767 from rfl] at hx; omega
        obtain ⟨hx0, hx1⟩ := hx0
        clear hx hcell
        have hblt2 := World.block_lt_of_cell? wr _ c0
        by_cases hm : 0 ≤ x
        · obtain ⟨k, hk⟩ : ∃ k : Nat, x % 3 = (k : Int) := ⟨(x % 3).toNat, by omega⟩
          have hk3 : k < 3 := by omega
          go_wp2_with fail
          have hk0 : (0 : Int) ≤ (k : Int) := by omega
          have hk1 : (k : Int) < 3 := by omega
          clear hm hx0 hx1 c0 hblt2 hk
          have hc := send_more HT.out.mine (letter k (i : Int))
          rw [bsOf_sendE S k hk3] at hc
          by_cases h8 : (S k).length = 8
          · rw [if_pos h8, bsOf_full S k hk3 _ h8] at hc
            refine hc.mono ?_
            rintro e w4 ⟨rfl, HM4, hg4⟩
            have HT4 : Hid (Turn w g rb sb v S w4) := Lib.hid ⟨HM4, by obtain ⟨cs, hr, _⟩ := HT.out.mine.p.row; exact HT.out.sent.far hr hg4, HT.out.sb', HT.out.few⟩
            clear hc HM4 hg4 HT
            have ck := HT4.out.sent.cell hk3
            obtain ⟨ad, cp, hv, hv1, hv2, _⟩ := view (HT4.out.sent.own k hk3)
            rw [hv, h8] at ck
            rw [h8] at hv1
            have hsl := HT4.out.sent.blk.lt
            clear hv h8
            go_wp2
            go_roundw
            case rel => exact ⟨i + 1, v, S, by go_num, by omega, HT4⟩
            case measure => simp [intOf]; omega
          · rw [if_neg h8, bsOf_sendS S k hk3 _ h8] at hc
            have hle := HT.out.few k hk3
            refine hc.mono ?_
            rintro e w4 ⟨rfl, HM4, hg4⟩
            have HS4 : Hid (Sent w.heap.size sb v S w4) := Lib.hid (by obtain ⟨cs, hr, _⟩ := HT.out.mine.p.row; exact HT.out.sent.far hr hg4)
            have HM4 := Lib.hid HM4
            have HB4 := Lib.hid (And.intro HT.out.sb' HT.out.few)
            clear hc hg4 HT
            have ck := HS4.out.cell hk3
            have hown := HS4.out.own k hk3
            obtain ⟨ad, cp, hv, hv1, hv2, _⟩ := view hown
            rw [hv] at ck
            have HV := Lib.hid hv
            rw [hv] at hown
            have hsl := HS4.out.blk.lt
            have fz := fun i => HS4.out.blk.free i
            have hl8 : (S k).length < 8 := by omega
            have hln := ints_len (S k)
            obtain ⟨n, hn⟩ : ∃ n, (S k).length = n := ⟨_, rfl⟩
            rw [hn] at ck hv1 hl8 hown
            have HN := Lib.hid hn
            have hbw := HM4.out.b.size
            clear hv h8 hle hn hln
            obtain ⟨i0, hi0, hz0, hz1, hz2⟩ := infoInt
            go_wp2_with (at_builtin; refine wpList_append_lies _ (by rfl) _ _ _ (by rfl) w.heap.size 3 i0 _ 1 8 Try.underlying26 hi0 hz0 hz1 hz2 rfl (by omega) (.slice ad n cp) n (ints (S k)) (by rfl) (hown.alloc _) ⟨w4.heap.size, 0, none⟩ 1 1 [.int .i64 (i : Int)] (by rfl) (by rfl) (World.news_of_block (cs := #[.int .i64 (i : Int)]) (t := 3) (fr := (0, 0)) (heap_alloc_new w4 _)) (by simp [Value.oneCell']) (by omega) (by unfold maxLen; omega) (by omega) (by simp; omega) (w4.heap.size + 1) (by simp) ?_; intro gg cap' w6 hown6 hgrow6 hat6 hlt6; have hk6 := (HS4.out.blk.alloc (.cells #[.int .i64 (i : Int)] 3)).by hgrow6 (fun e => own_type (HS4.out.own k hk3) HS4.out.blk (by decide) (by rw [HV.out, HN.out]; exact e.symm)); have ck6 := blk3_cell hk6 hk3; have fz6 := fun i => hk6.free i; have hs6 := hk6.lt; clear hk6)
            have hput := Sent.put HM4.out HS4.out HB4.out.1 hk3 ((Below.refl _ _).alloc (Nat.le_refl _) _) hgrow6 (.inl (by rw [HV.out, HN.out])) (v' := .slice (some ⟨gg, 0, none⟩) (n + 1) cap') (l := S k ++ [(i : Int)])
              (by rw [List.length_append, HN.out]; simpa [ints] using hown6) (by
                rcases hat6 with h1 | h1
                · exact .inr (.inl (by rw [HV.out, HN.out, h1]; rfl))
                · exact .inr (.inr ⟨gg, rfl, by omega⟩))
            have HT7 : Hid (Turn w g rb sb _ (upd S k (S k ++ [(i : Int)])) _) := Lib.hid ⟨hput.1, hput.2, HB4.out.1, fun j hj => by
              by_cases e : j = k
              · subst e; rw [upd_same, List.length_append, HN.out]; show n + 1 ≤ 8; omega
              · rw [upd_other _ _ _ _ e]; exact HB4.out.2 j hj⟩
            exact ⟨⟨i + 1, _, _, by go_num, by omega, HT7⟩, by simp [intOf]; omega⟩
        · go_wp2_with fail
          obtain ⟨k, hk, hk3⟩ : ∃ k : Nat, (wrap64 (IntKind.u16.wrap x)).tmod 3 = (k : Int) ∧ k < 3 := by
            have h1 : IntKind.u16.wrap x = x + 65536 := by rw [IntKind.wrap_u16]; omega
            have h2 : wrap64 (x + 65536) = x + 65536 := by unfold wrap64; omega
            rw [h1, h2, Int.tmod_eq_emod_of_nonneg (by omega)]
            exact ⟨((x + 65536) % 3).toNat, by omega, by omega⟩
          rw [hk]
          generalize wrap64 (IntKind.u16.wrap x) = y1
          generalize IntKind.u16.wrap x = y2
          have hk0 : (0 : Int) ≤ (k : Int) := by omega
          have hk1 : (k : Int) < 3 := by omega
          clear hm hx0 hx1 c0 hblt2 hk
          have hc := take_more HT.out.mine (k : Int)
          cases hS : S k with
          | nil =>
            obtain ⟨e1, e2, e3⟩ := bsOf_none S k hk3 hS
            rw [e1, e2, e3] at hc
            refine hc.mono ?_
            rintro e w4 ⟨rfl, HM4, hg4⟩
            have HT4 : Hid (Turn w g rb sb v S w4) := Lib.hid ⟨HM4, by obtain ⟨cs, hr, _⟩ := HT.out.mine.p.row; exact HT.out.sent.far hr hg4, HT.out.sb', HT.out.few⟩
            clear hc HM4 hg4 HT e1 e2 e3
            unfold Letter.val Letter.zero
            have hba : Below w4.heap.size w4 (w4.alloc (.cells #[.int .i64 0, .int .i64 0, .int .i64 0, .string ⟨#[]⟩] 33)) := (Below.refl _ _).alloc (Nat.le_refl _) _
            have HT5 : Hid (Turn w g rb sb v S (w4.alloc (.cells #[.int .i64 0, .int .i64 0, .int .i64 0, .string ⟨#[]⟩] 33))) := Lib.hid ⟨HT4.out.mine.quiet hba, HT4.out.sent.below hba, HT4.out.sb', HT4.out.few⟩
            have ck := HT4.out.sent.cell hk3
            obtain ⟨ad, cp, hv, hv1, hv2, _⟩ := view (HT4.out.sent.own k hk3)
            rw [hv, hS] at ck
            have hsl := HT4.out.sent.blk.lt
            clear hv hv1 hS hba
            simp only [List.length_nil] at ck
            go_wp2
            go_roundw
            case rel => exact ⟨i + 1, v, S, by go_num, by omega, HT5⟩
            case measure => simp [intOf]; omega
          | cons y l =>
            obtain ⟨e1, e2, e3⟩ := bsOf_some S k hk3 y l hS
            rw [e1, e2, e3] at hc
            refine hc.mono ?_
            rintro e w4 ⟨rfl, HM4, hg4⟩
            have HS4 : Hid (Sent w.heap.size sb v S w4) := Lib.hid (by obtain ⟨cs, hr, _⟩ := HT.out.mine.p.row; exact HT.out.sent.far hr hg4)
            have HM4 := Lib.hid HM4
            have HB4 := Lib.hid (And.intro HT.out.sb' HT.out.few)
            clear hc hg4 HT e1 e2 e3
            unfold Letter.val letter
            have hba : Below w4.heap.size w4 (w4.alloc (.cells #[.int .i64 k, .int .i64 0, .int .i64 y, .string ⟨#[]⟩] 33)) := (Below.refl _ _).alloc (Nat.le_refl _) _
            have HS5 := Lib.hid (HS4.out.below hba)
            have HM5 := Lib.hid (HM4.out.quiet hba)
            have hb5 := Blk.new w4 _ 33 #[.int .i64 k, .int .i64 0, .int .i64 y, .string ⟨#[]⟩] rfl
            have ck := HS4.out.cell hk3
            have hown := HS4.out.own k hk3
            obtain ⟨ad, cp, hv, hv1, hv2, hv3⟩ := view hown
            obtain ⟨gb, rfl, hgb, hhd⟩ := hv3 (by rw [hS]; simp)
            have hh := hhd 0 y (by rw [hS]; rfl)
            have HHD := Lib.hid hhd
            have HV := Lib.hid hv
            rw [hv] at ck
            have hll : (S k).length = l.length + 1 := by rw [hS]; rfl
            have hl8 := HB4.out.2 k hk3
            rw [hll] at ck hv1 hl8
            have HLL := Lib.hid hll
            have HSK := Lib.hid hS
            have hsl := HS4.out.blk.lt
            have hne0 : ¬ ((l.length : Int) + 1 = 0) := by omega
            have hk5 := HS5.out.cell hk3
            rw [hv, hll] at hk5
            have hh5 := (hba.cell (p := ⟨gb, 0, none⟩) hgb).trans hh
            have HBA := Lib.hid hba
            clear hhd hv hS hll hown hba
            go_wp2_with fail
            generalize w4.alloc (.cells #[.int .i64 k, .int .i64 0, .int .i64 y, .string ⟨#[]⟩] 33) = w5 at *
            have c50 : w5.cell? ⟨w4.heap.size, 0, none⟩ = some (.int .i64 (k : Int)) := hb5.cell 0
            have c52 : w5.cell? ⟨w4.heap.size, 2, none⟩ = some (.int .i64 y) := hb5.cell 2
            have hb5l := hb5.lt
            have hs5l := HS5.out.blk.lt
            have hgb5 := World.block_lt_of_cell? w5 _ hh5
            clear ck hh hgb hsl hb5
            have hl0 : (0 : Int) < (l.length : Int) + 1 := by omega
            go_quiet (fail)
            have hbq := below_drewN (Below.refl w5.heap.size w5) nq
            have HS6 := Lib.hid (HS5.out.below hbq)
            have HM6 := Lib.hid (HM5.out.quiet hbq)
            have HB6 := Lib.hid (bt HBA.out hbq)
            have ck6 : (w5.drewN nq).cell? ⟨sb, k, none⟩ = some (.slice (some ⟨gb, 0, none⟩) (l.length + 1) cp) := hk5
            have hs6l : sb < (w5.drewN nq).heap.size := hs5l
            clear hbq HS5 HM5 hk5 hh5 c50 c52 hb5l hs5l hgb5
            generalize w5.drewN nq = w6 at *
            have hlk := HS6.out.blk.lt
            by_cases hcp : cp = 1
            · have hl1 : l = [] := List.eq_nil_of_length_eq_zero (by omega)
              subst hcp hl1
              simp only [List.length_nil, Nat.zero_add] at ck6
              go_wp2_with (at_builtin; refine wpList_copy_ints (by rfl) _ _ (by rfl) w6 (by rfl) ⟨gb, 0, none⟩ 0 ([] : List Int) (by simp; try omega) (by rfl) (by simp [ints]) ?_; intro ad7 cp7 w7 hown7 hgrow7; have hk7 := (HS6.out.blk.alloc (.cells #[] 3)).by hgrow7 (by intro e; injection e with e; omega); have ck7 := blk3_cell hk7 hk3; have fz7 := fun i => hk7.free i; have hs7 := hk7.lt; clear hk7)
              have hput := Sent.put HM6.out HS6.out HB4.out.1 hk3 ((Below.refl _ _).alloc (Nat.le_refl _) (.cells #[] 3)) hgrow7 (.inr ⟨w6.heap.size, rfl, Nat.le_refl _⟩) (l := ([] : List Int))
                (own_base hown7 HM6.out.b.size) (own_new hown7)
              have HT7 : Hid (Turn w g rb sb _ (upd S k ([] : List Int)) _) := Lib.hid ⟨hput.1, hput.2, HB4.out.1, fun j hj => by
                by_cases e : j = k
                · subst e; rw [upd_same]; show _ ≤ 8; first | omega | simp
                · rw [upd_other _ _ _ _ e]; exact HB4.out.2 j hj⟩
              exact ⟨⟨i + 1, _, _, by go_num, by omega, HT7⟩, by simp [intOf]; omega⟩
            · have hcp1 : 1 < cp := by omega
              have hcp2 : (1 : Int) < (cp : Int) := by omega
              have hnews : ∀ (j : Nat) (u : Value), (ints l)[j]? = some u → (w6.alloc (.cells #[] 3)).cell? ((⟨gb, 1, none⟩ : Addr).add j) = some u := by
                intro j u hu
                obtain ⟨q, hq, rfl⟩ : ∃ q, l[j]? = some q ∧ .int .i64 q = u := by simpa [ints] using hu
                have h1 := HHD.out (1 + j) q (by rw [HSK.out, Nat.add_comm]; simpa using hq)
                rw [Addr.add_mid]
                exact keep_alloc _ ((HB6.out.cell (p := ⟨gb, 1 + j, none⟩) (World.block_lt_of_cell? _ _ h1)).trans h1)
              go_wp2_with (at_builtin; refine wpList_copy_ints (by rfl) _ _ (by rfl) w6 (by rfl) ⟨gb, 1, none⟩ (cp - 1) l (by omega) (by rfl) hnews ?_; intro ad7 cp7 w7 hown7 hgrow7; have hk7 := (HS6.out.blk.alloc (.cells #[] 3)).by hgrow7 (by intro e; injection e with e; omega); have ck7 := blk3_cell hk7 hk3; have fz7 := fun i => hk7.free i; have hs7 := hk7.lt; clear hk7)
              have hput := Sent.put HM6.out HS6.out HB4.out.1 hk3 ((Below.refl _ _).alloc (Nat.le_refl _) (.cells #[] 3)) hgrow7 (.inr ⟨w6.heap.size, rfl, Nat.le_refl _⟩) (l := l)
                (own_base hown7 HM6.out.b.size) (own_new hown7)
              have HT7 : Hid (Turn w g rb sb _ (upd S k l) _) := Lib.hid ⟨hput.1, hput.2, HB4.out.1, fun j hj => by
                by_cases e : j = k
                · subst e; rw [upd_same]; show _ ≤ 8; first | omega | simp
                · rw [upd_other _ _ _ _ e]; exact HB4.out.2 j hj⟩
              exact ⟨⟨i + 1, _, _, by go_num, by omega, HT7⟩, by simp [intOf]; omega⟩
      · have hi1 : ¬ (i : Int) < (z.length : Int) := by omega
        obtain ⟨ad0, cp0, hv0, hc0, hm0, _⟩ := view (HT.out.sent.own 0 (by omega))
        obtain ⟨ad1, cp1, hv1, hc1, hm1, _⟩ := view (HT.out.sent.own 1 (by omega))
        obtain ⟨ad2, cp2, hv2, hc2, hm2, _⟩ := view (HT.out.sent.own 2 (by omega))
        have c0 := HT.out.sent.cell (k := 0) (by omega)
        have c1 := HT.out.sent.cell (k := 1) (by omega)
        have c2 := HT.out.sent.cell (k := 2) (by omega)
        rw [hv0] at c0
        rw [hv1] at c1
        rw [hv2] at c2
        have f0 := HT.out.few 0 (by omega)
        have f1 := HT.out.few 1 (by omega)
        have f2 := HT.out.few 2 (by omega)
        have hall : ((allOf (bsOf S) : Nat) : Int) = ((S 0).length : Int) + ((S 1).length : Int) + ((S 2).length : Int) := by rw [bsOf_all]; omega
        have hM : ∀ W, Mine w g rb (bsOf S) W → Calls Try.prog 11 #[.pointer (some ⟨g, 0, none⟩)] W fun e w' => e = .returned (.int .i64 (((S 0).length : Int) + ((S 1).length : Int) + ((S 2).length : Int))) ∧ Mine w g rb (bsOf S) w' ∧ Below W.heap.size W w' := by
          intro W h; have := all_mine h; rwa [hall] at this
        have HM := Lib.hid HT.out.mine
        have hsl := HT.out.sent.blk.lt
        clear hv0 hv1 hv2 hall HT
        generalize (S 0).length = n0 at *
        generalize (S 1).length = n1 at *
        generalize (S 2).length = n2 at *
        generalize bsOf S = bs at *
        have s01 : (n0 : Int) + (n1 : Int) ≤ 16 := by omega
        have s02 : (n0 : Int) + (n1 : Int) + (n2 : Int) ≤ 24 := by omega
        go_wp2_with fail
        go_region_held3 (fun w' => w'.cell? ⟨sb, 0, none⟩ = some (.slice ad0 n0 cp0) ∧ w'.cell? ⟨sb, 1, none⟩ = some (.slice ad1 n1 cp1) ∧ w'.cell? ⟨sb, 2, none⟩ = some (.slice ad2 n2 cp2) ∧ Hid (Mine w g rb bs w'))
          (first | exact ⟨c0, c1, c2, Lib.hid (HM.out.quiet (below_drewN (Below.refl _ _) 1))⟩ | exact ⟨e0, e1, e2, HM4⟩ | assumption)
          (first | (go_at_call 11; have hh := ‹_ ∧ _ ∧ _ ∧ Hid (Mine w g rb bs _)›; refine (hM _ hh.2.2.2.out).mono ?_; rintro e w4 ⟨rfl, HM4, hb4⟩; have HM4 := Lib.hid HM4; have e0 := (hb4.cell (p := ⟨sb, 0, none⟩) (World.block_lt_of_cell? _ _ hh.1)).trans hh.1; have e1 := (hb4.cell (p := ⟨sb, 1, none⟩) (World.block_lt_of_cell? _ _ hh.2.1)).trans hh.2.1; have e2 := (hb4.cell (p := ⟨sb, 2, none⟩) (World.block_lt_of_cell? _ _ hh.2.2.1)).trans hh.2.2.1))
        rw [sum3 n0 n1 n2 f0 f1 f2]
        go_wp2
        go_ret
        exact ⟨rfl, HM4.out.b⟩
end Go.Proofs.Ytilnbgkepijfbaa
