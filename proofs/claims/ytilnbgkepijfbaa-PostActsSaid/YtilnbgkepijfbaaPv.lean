/- The walk of PostActs, its rounds. -/
import Derived.Test.YtilnbgkepijfbaaPu
namespace Go.Proofs.Ytilnbgkepijfbaa
open Go.RowKit
set_option linter.unusedVariables false
set_option linter.unusedSimpArgs false

theorem boxes_len {bs : List Bx} (i : Nat) (b : Bx) (h : bs[i]? = some b) : lenOf bs (i : Int) = b.l.length := by
  unfold lenOf; rw [boxOf_at h]

/-- What a round's last question keeps: the letter's cell, the post and the reference. -/
theorem round_len {w : World} {g rb n r cap xb : Nat} {bs : List Bx} {k : Int} (W : World) (h : W.cell? ⟨xb, 0, none⟩ = some (.int .i64 k) ∧ Hid (Both w g rb n bs r cap bs W)) :
    Calls Try.prog 13 #[.pointer (some ⟨g, 0, none⟩), .int .i64 k] W fun e w' => e = .returned (.int .i64 (lenOf bs k)) ∧ (w'.cell? ⟨xb, 0, none⟩ = some (.int .i64 k) ∧ Hid (Both w g rb n bs r cap bs w')) :=
  (h.2.out.lenq k).mono fun e w' ⟨h1, h2⟩ => ⟨h1, (h2.cell (World.block_lt_of_cell? _ _ h.1)).trans h.1, Lib.hid (h.2.out.quiet h2)⟩
theorem round_rlen {w : World} {g rb n r cap xb : Nat} {bs : List Bx} {k : Int} (W : World) (h : W.cell? ⟨xb, 0, none⟩ = some (.int .i64 k) ∧ Hid (Both w g rb n bs r cap bs W)) :
    Calls Try.prog 21 #[.slice (some ⟨r, 0, none⟩) n cap, .int .i64 k] W fun e w' => e = .returned (.int .i64 (lenOf bs k)) ∧ (w'.cell? ⟨xb, 0, none⟩ = some (.int .i64 k) ∧ Hid (Both w g rb n bs r cap bs w')) :=
  (h.2.out.rlenq k).mono fun e w' ⟨h1, h2⟩ => ⟨h1, (h2.cell (World.block_lt_of_cell? _ _ h.1)).trans h.1, Lib.hid (h.2.out.quiet h2)⟩
theorem round_room {w : World} {g rb n r cap xb : Nat} {bs : List Bx} {k : Int} (W : World) (h : W.cell? ⟨xb, 0, none⟩ = some (.int .i64 k) ∧ Hid (Both w g rb n bs r cap bs W)) :
    Calls Try.prog 12 #[.pointer (some ⟨g, 0, none⟩), .int .i64 k] W fun e w' => e = .returned (.int .i64 (roomOf bs k)) ∧ (w'.cell? ⟨xb, 0, none⟩ = some (.int .i64 k) ∧ Hid (Both w g rb n bs r cap bs w')) :=
  (h.2.out.roomq k).mono fun e w' ⟨h1, h2⟩ => ⟨h1, (h2.cell (World.block_lt_of_cell? _ _ h.1)).trans h.1, Lib.hid (h.2.out.quiet h2)⟩
theorem round_rroom {w : World} {g rb n r cap xb : Nat} {bs : List Bx} {k : Int} (W : World) (h : W.cell? ⟨xb, 0, none⟩ = some (.int .i64 k) ∧ Hid (Both w g rb n bs r cap bs W)) :
    Calls Try.prog 22 #[.slice (some ⟨r, 0, none⟩) n cap, .int .i64 k] W fun e w' => e = .returned (.int .i64 (roomOf bs k)) ∧ (w'.cell? ⟨xb, 0, none⟩ = some (.int .i64 k) ∧ Hid (Both w g rb n bs r cap bs w')) :=
  (h.2.out.rroomq k).mono fun e w' ⟨h1, h2⟩ => ⟨h1, (h2.cell (World.block_lt_of_cell? _ _ h.1)).trans h.1, Lib.hid (h.2.out.quiet h2)⟩

theorem round_row {w : World} {g rb n r cap q : Nat} {bs : List Bx} {k : Int} {v : Value} (W : World) (h : W.cell? ⟨r, q, none⟩ = some v ∧ Hid (Both w g rb n bs r cap bs W)) :
    Calls Try.prog 13 #[.pointer (some ⟨g, 0, none⟩), .int .i64 k] W fun e w' => e = .returned (.int .i64 (lenOf bs k)) ∧ (w'.cell? ⟨r, q, none⟩ = some v ∧ Hid (Both w g rb n bs r cap bs w')) :=
  (h.2.out.lenq k).mono fun e w' ⟨h1, h2⟩ => ⟨h1, (h2.cell (World.block_lt_of_cell? _ _ h.1)).trans h.1, Lib.hid (h.2.out.quiet h2)⟩
theorem allOf_le (bs : List Bx) (h : ∀ (k : Nat) (b : Bx), bs[k]? = some b → b.l.length ≤ 8) (i : Nat) : allOf (bs.take i) ≤ i * 8 := by
  induction i with
  | zero => simp [allOf]
  | succ i ih =>
    by_cases hi : i < bs.length
    · have h1 : bs[i]? = some bs[i] := List.getElem?_eq_getElem hi
      have := allOf_take bs i _ h1
      have := h i _ h1
      omega
    · rw [List.take_of_length_le (by omega)]
      rw [List.take_of_length_le (by omega)] at ih
      omega

set_option maxRecDepth 100000 in
set_option maxHeartbeats 8000000 in
theorem acts_walk (n0 : Int) (a0 : Option Addr) (len cap0 : Nat) (f : Nat → Int × Letter) (w : World) (h : IsActs w a0 len f) (hm : len ≤ cap0) (hmax : cap0 ≤ maxLen) (hn : (Lit.int .i64 n0).wf = true) :
    Calls Try.prog 5 #[.int .i64 n0, .slice a0 len cap0] w fun e w' => e = .returned (.bool true) ∧ Below w.heap.size w w' := by
  have HAT := Lib.hid h
  clear h
  have hsh := shown_any w
  have hlm : (len : Int) ≤ 9223372036854775807 := by simp [maxLen] at hmax; omega
  by_cases hbig : len > 200
  · have hb2 : (len : Int) > 200 := by omega
    go_enter Try.func5, Try.ntmps5
    go_wp2_with fail
    refine hsh.mono ?_
    rintro e w1 ⟨rfl, hb1⟩
    go_wp2
    go_ret
    exact ⟨rfl, hb1⟩
  · have hb2 : ¬ (len : Int) > 200 := by omega
    have hb3 : (len : Int) ≤ 200 := by omega
    clear hbig hmax
    by_cases hnb : n0 < 1 ∨ 64 < n0
    · go_enter Try.func5, Try.ntmps5
      go_wp2_with fail
      refine hsh.mono ?_
      rintro e w1 ⟨rfl, hb1⟩
      have HB1 := Lib.hid hb1
      have hr := rnew_bad n0
      clear hb1 hsh
      go_wp2_with fail
      refine (new_bad n0 w1 hnb).mono ?_
      rintro e w2 ⟨rfl, hb2⟩
      have HB2 := Lib.hid (bt HB1.out hb2)
      clear hb2 HB1
      go_wp2_with fail
      refine (hr w2 hnb).mono ?_
      rintro e w3 ⟨rfl, hb3⟩
      have HB3 := Lib.hid (bt HB2.out hb3)
      clear hb3 HB2 hr hnb
      go_wp2
      go_ret
      exact ⟨rfl, HB3.out⟩
    · obtain ⟨n, rfl⟩ : ∃ n : Nat, n0 = (n : Int) := ⟨n0.toNat, by omega⟩
      have h1 : 1 ≤ n := by omega
      have h64 : n ≤ 64 := by omega
      clear hnb hn
      go_enter Try.func5, Try.ntmps5
      go_wp2_with fail
      refine hsh.mono ?_
      rintro e w1 ⟨rfl, hb1⟩
      have HB1 := Lib.hid hb1
      clear hb1 hsh
      go_wp2_with fail
      refine (new_any n w1 h1 h64).mono ?_
      intro e w2 h2
      obtain ⟨g, rb, rfl, HM⟩ := h2.mine HB1.out
      have HM := Lib.hid HM
      have hlt : rb < w2.heap.size := by obtain ⟨cs, hb, _⟩ := HM.out.p.row; exact hb.lt
      clear h2 HB1
      go_wp2_with fail
      refine (rnew_any (fun x => x = rb) n w2 h1 h64 (fun x e => by subst e; exact hlt)).mono ?_
      rintro e w3 ⟨r, rfl, hb3, hr3⟩
      have HH := Lib.hid (show Both w g rb n (List.replicate n ⟨[], false⟩) r n (List.replicate n ⟨[], false⟩) w3 from ⟨HM.out.quiet hb3, hr3, List.length_replicate⟩)
      clear hb3 hr3 HM hlt
      go_wp2
      go_loopw [6, 9] (fun s6 s9 wr => ∃ (i r cap : Nat) (bs : List Bx), Value.slice (some ⟨r, 0, none⟩) n cap = s6 ∧ Value.int .i64 i = s9 ∧ i ≤ len ∧ Hid (Both w g rb n bs r cap bs wr)) (fun _ s9 _ => len - (intOf s9).toNat)
      case atStart => exact ⟨0, _, _, _, rfl, rfl, by omega, HH⟩
      case round =>
        clear HH
        obtain ⟨i, r, cap, bs, hs6, hs9, hi, HH⟩ := hrel
        subst hs6 hs9
        by_cases hlt : i < len
        · have hi1 : (i : Int) < (len : Int) := by omega
          have hi0 : (0 : Int) ≤ (i : Int) := by omega
          obtain ⟨b, off, rfl, hblt, c0, c1, c2, c3, c4, hsz⟩ := HAT.out i hlt
          have c0 := (HH.out.m.b.cell (p := ⟨b, off + i * 5, none⟩) hblt).trans c0
          have c1 := (HH.out.m.b.cell (p := ⟨b, off + i * 5 + 1, none⟩) hblt).trans c1
          have c2 := (HH.out.m.b.cell (p := ⟨b, off + i * 5 + 1 + 1, none⟩) hblt).trans c2
          have c3 := (HH.out.m.b.cell (p := ⟨b, off + i * 5 + 1 + 2, none⟩) hblt).trans c3
          have c4 := (HH.out.m.b.cell (p := ⟨b, off + i * 5 + 1 + 3, none⟩) hblt).trans c4
          have hblt2 := World.block_lt_of_cell? wr _ c0
          generalize f i = kx at *
          obtain ⟨kd, ⟨xt, xf, xk, xs⟩⟩ := kx
          simp only at c0 c1 c2 c3 c4 hsz
          have hxs : (xs.size : Int) ≤ 9223372036854775807 := by simp [maxLen] at hsz; omega
          by_cases h300 : xs.size > 300
          · have h301 : (xs.size : Int) > 300 := by omega
            have HX := Lib.hid (HH.out.m.b.alloc HH.out.m.b.size (.cells #[.int .i64 xt, .int .i64 xf, .int .i64 xk, .string xs] 33))
            go_wp2_with fail
            refine (shown_any _).mono ?_
            rintro e w4 ⟨rfl, hb4⟩
            go_wp2
            go_ret
            exact ⟨rfl, bt HX.out hb4⟩
          · have h301 : ¬ (xs.size : Int) > 300 := by omega
            go_wp2_with fail
            all_goals
              have HA := Lib.hid (HH.out.quiet ((Below.refl _ _).alloc (Nat.le_refl _) (.cells #[.int .i64 xt, .int .i64 xf, .int .i64 xk, .string xs] 33)))
              have hx := Blk.new wr _ 33 #[.int .i64 xt, .int .i64 xf, .int .i64 xk, .string xs] rfl
              have hne := HA.out.ne hx
              clear HH c0 c1 c2 c3 c4
              generalize wr.alloc (.cells #[.int .i64 xt, .int .i64 xf, .int .i64 xk, .string xs] 33) = w4 at *
              generalize wr.heap.size = xb at *
            iterate 4
              focus
                have hc := HA.out.rsend ⟨xt, xf, xk, xs⟩
                unfold Letter.val at hc
                refine hc.mono ?_
                rintro e w5 ⟨r', cap', rfl, HA5, hg5⟩
                have HA5 := Lib.hid HA5
                have hx5 := hx.by hg5 hne
                have x0 := hx5.cell 0
                have x1 := hx5.cell 1
                have x2 := hx5.cell 2
                have x3 := hx5.cell 3
                simp at x0 x1 x2 x3
                have hl5 := hx5.lt
                clear hc hx hg5 HA
                have hc := HA5.out.send ⟨xt, xf, xk, xs⟩
                unfold Letter.val at hc
                have HX5 := Lib.hid hx5
                clear hx5
                go_wp2_with fail
                refine hc.mono ?_
                rintro e w6 ⟨rfl, HA6, hg6⟩
                have HA6 := Lib.hid HA6
                have hx6 := HX5.out.by hg6 hne
                have x0 := hx6.cell 0
                simp at x0
                have hl6 := hx6.lt
                clear hc hg6 HA5 HX5 hx6 x1 x2 x3 hl5
                go_wp2_with fail
                have HSTART : w6.drew.cell? ⟨xb, 0, none⟩ = some (.int .i64 xt) ∧ Hid (Both w g rb n (sendS bs ⟨xt, xf, xk, xs⟩) r' cap' (sendS bs ⟨xt, xf, xk, xs⟩) w6.drew) := ⟨x0, Lib.hid (HA6.out.quiet (below_drewN (Below.refl _ _) 1))⟩
                generalize sendS bs ⟨xt, xf, xk, xs⟩ = bs6 at *
                go_region_held3 (fun W => W.cell? ⟨xb, 0, none⟩ = some (.int .i64 xt) ∧ Hid (Both w g rb n bs6 r' cap' bs6 W)) (with_reducible assumption)
                  (first | (go_at_call 13; refine (round_len _ (by assumption)).mono ?_; rintro e w7 ⟨rfl, HW⟩) | (go_at_call 21; refine (round_rlen _ (by assumption)).mono ?_; rintro e w7 ⟨rfl, HW⟩) | (go_at_call 12; refine (round_room _ (by assumption)).mono ?_; rintro e w7 ⟨rfl, HW⟩) | (go_at_call 22; refine (round_rroom _ (by assumption)).mono ?_; rintro e w7 ⟨rfl, HW⟩))
                clear HSTART
                go_wp2
                go_roundw
                case rel => exact ⟨i + 1, r', cap', _, rfl, by go_num, by omega, HW.2⟩
                case measure => simp [intOf]; omega
            iterate 2
              focus
                have hc := HA.out.rtake xt
                refine hc.mono ?_
                rintro e w5 ⟨r', cap', rfl, HA5, hg5⟩
                have HA5 := Lib.hid HA5
                have hx5 := hx.by hg5 hne
                have x0 := hx5.cell 0
                simp at x0
                have hl5 := hx5.lt
                have HX5 := Lib.hid hx5
                clear hc hx hg5 HA hx5
                have hs6 := takeS_len bs xt
                generalize hS : takeS bs xt = bs6 at *
                generalize hE : takeE bs xt = er at *
                generalize hV : takeV bs xt = y at *
                have HS := Lib.hid hS
                have HE := Lib.hid hE
                have HV := Lib.hid hV
                clear hS hE hV hs6
                obtain ⟨yt, yf, yk, ys⟩ := y
                unfold Letter.val
                go_wp2_with fail
                have hbb : Below w5.heap.size w5 (w5.alloc (.cells #[.int .i64 yt, .int .i64 yf, .int .i64 yk, .string ys] 52)) := (Below.refl _ _).alloc (Nat.le_refl _) _
                have HB5 := Lib.hid (HA5.out.quiet hbb)
                have hx5 := HX5.out.alloc (.cells #[.int .i64 yt, .int .i64 yf, .int .i64 yk, .string ys] 52)
                have hy5 := Blk.new w5 _ 52 #[.int .i64 yt, .int .i64 yf, .int .i64 yk, .string ys] rfl
                have hny := HB5.out.ne hy5
                clear hbb x0 hl5 HX5 HA5
                generalize w5.alloc (.cells #[.int .i64 yt, .int .i64 yf, .int .i64 yk, .string ys] 52) = w6 at *
                generalize w5.heap.size = yb at *
                have hc := HB5.out.take xt
                rw [HS.out, HE.out, HV.out] at hc
                unfold Letter.val at hc
                refine hc.mono ?_
                rintro e w7 ⟨rfl, HA6, hg7⟩
                have HA6 := Lib.hid HA6
                have hx7 := hx5.by hg7 hne
                have hy7 := hy5.by hg7 hny
                have x0 := hx7.cell 0
                have y0 := hy7.cell 0
                have y1 := hy7.cell 1
                have y2 := hy7.cell 2
                have y3 := hy7.cell 3
                simp at x0 y0 y1 y2 y3
                have hl7 := hx7.lt
                have hly := hy7.lt
                have HX7 := Lib.hid hx7
                clear hc hg7 HB5 hx5 hy5 hx7 hy7 hny
                go_wp2_with fail
                have hbb : Below w7.heap.size w7 (w7.alloc (.cells #[.int .i64 yt, .int .i64 yf, .int .i64 yk, .string ys] 33)) := (Below.refl _ _).alloc (Nat.le_refl _) _
                have HA6 := Lib.hid (HA6.out.quiet hbb)
                have x0 := (hbb.cell (World.block_lt_of_cell? _ _ x0)).trans x0
                clear y0 y1 y2 y3 hl7 hly hbb
                generalize hWW : w7.alloc (.cells #[.int .i64 yt, .int .i64 yf, .int .i64 yk, .string ys] 33) = WW at *
                clear hWW
                have HSTART : WW.drew.cell? ⟨xb, 0, none⟩ = some (.int .i64 xt) ∧ Hid (Both w g rb n bs6 r' cap' bs6 WW.drew) := ⟨x0, Lib.hid (HA6.out.quiet (below_drewN (Below.refl _ _) 1))⟩
                go_region_held3 (fun W => W.cell? ⟨xb, 0, none⟩ = some (.int .i64 xt) ∧ Hid (Both w g rb n bs6 r' cap' bs6 W)) (with_reducible assumption)
                  (first | (go_at_call 13; refine (round_len _ (by assumption)).mono ?_; rintro e w7 ⟨rfl, HW⟩) | (go_at_call 21; refine (round_rlen _ (by assumption)).mono ?_; rintro e w7 ⟨rfl, HW⟩) | (go_at_call 12; refine (round_room _ (by assumption)).mono ?_; rintro e w7 ⟨rfl, HW⟩) | (go_at_call 22; refine (round_rroom _ (by assumption)).mono ?_; rintro e w7 ⟨rfl, HW⟩))
                clear HSTART
                go_wp2
                go_roundw
                case rel => exact ⟨i + 1, r', cap', _, rfl, by go_num, by omega, HW.2⟩
                case measure => simp [intOf]; omega
            focus
                have hc := HA.out.rclose xt
                refine hc.mono ?_
                rintro e w5 ⟨r', cap', ad, c, rfl, HA5, hN, hg5⟩
                have HA5 := Lib.hid HA5
                have hx5 := hx.by hg5 hne
                have x0 := hx5.cell 0
                simp at x0
                have hl5 := hx5.lt
                have HX5 := Lib.hid hx5
                have HN := Lib.hid hN
                have hv8 : (closeV bs xt).length ≤ 8 := by
                  unfold closeV; split
                  · split
                    · simp
                    · rename_i b hb _; obtain ⟨j, _, _, hbj⟩ := boxOf_some hb; exact HA.out.f.len _ _ hbj
                  · simp
                clear hc hx hg5 HA hx5 hN
                generalize hS : closeS bs xt = bs6 at *
                generalize hE : closeE bs xt = er at *
                generalize hV : closeV bs xt = y at *
                have HS := Lib.hid hS
                have HE := Lib.hid hE
                have HV := Lib.hid hV
                clear hS hE hV
                go_wp2_with fail
                have hc := HA5.out.close xt
                rw [HS.out, HE.out, HV.out] at hc
                refine hc.mono ?_
                rintro e w6 ⟨ad2, c2, rfl, hsl, HA6, hg6⟩
                have hN6 := HN.out.by hg6 (fun x e => by injection e with e; exact e.symm)
                have HN6 := Lib.hid hN6
                have HA6 := Lib.hid HA6
                have hx6 := HX5.out.by hg6 hne
                have x0 := hx6.cell 0
                simp at x0
                have hl6 := hx6.lt
                have HX6 := Lib.hid hx6
                have HSL := Lib.hid hsl
                clear hc hg6 HA5 HX5 HN hx6 hsl hl5 hN6
                go_wp2_with fail
                refine (its_any ad2 c2 y _ HSL.out hv8).mono ?_
                rintro e w7 ⟨ad3, c3, rfl, hb7, hs7⟩
                have HS7 := Lib.hid hs7
                have HA7 := Lib.hid (HA6.out.quiet hb7)
                have hx7 := HX6.out.by (only_below hb7 none) (by simp)
                have HN7 := Lib.hid (HN6.out.below hb7)
                have x0 := hx7.cell 0
                simp at x0
                have HX7 := Lib.hid hx7
                clear hs7 HA6 HX6 HN6 HSL hb7 hx7 hl6
                go_wp2_with fail
                refine (same_any ad3 ad c3 c y _ HS7.out HN7.out.s hv8).mono ?_
                rintro e WW ⟨rfl, hb8⟩
                have HA6 := Lib.hid (HA7.out.quiet hb8)
                have hx8 := HX7.out.by (only_below hb8 none) (by simp)
                have x0 := hx8.cell 0
                simp at x0
                have hl8 := hx8.lt
                clear hb8 HA7 HX7 HS7 HN7 hx8
                go_wp2_with fail
                have HSTART : WW.drew.cell? ⟨xb, 0, none⟩ = some (.int .i64 xt) ∧ Hid (Both w g rb n bs6 r' cap' bs6 WW.drew) := ⟨x0, Lib.hid (HA6.out.quiet (below_drewN (Below.refl _ _) 1))⟩
                go_region_held3 (fun W => W.cell? ⟨xb, 0, none⟩ = some (.int .i64 xt) ∧ Hid (Both w g rb n bs6 r' cap' bs6 W)) (with_reducible assumption)
                  (first | (go_at_call 13; refine (round_len _ (by assumption)).mono ?_; rintro e w7 ⟨rfl, HW⟩) | (go_at_call 21; refine (round_rlen _ (by assumption)).mono ?_; rintro e w7 ⟨rfl, HW⟩) | (go_at_call 12; refine (round_room _ (by assumption)).mono ?_; rintro e w7 ⟨rfl, HW⟩) | (go_at_call 22; refine (round_rroom _ (by assumption)).mono ?_; rintro e w7 ⟨rfl, HW⟩))
                clear HSTART
                go_wp2
                go_roundw
                case rel => exact ⟨i + 1, r', cap', _, rfl, by go_num, by omega, HW.2⟩
                case measure => simp [intOf]; omega
            focus
                have x0 := hx.cell 0
                simp at x0
                have hl := hx.lt
                clear hx
                generalize hWW : w4 = WW at *
                have HA6 := HA
                clear HA
                have HSTART : WW.drew.cell? ⟨xb, 0, none⟩ = some (.int .i64 xt) ∧ Hid (Both w g rb n bs r cap bs WW.drew) := ⟨x0, Lib.hid (HA6.out.quiet (below_drewN (Below.refl _ _) 1))⟩
                go_region_held3 (fun W => W.cell? ⟨xb, 0, none⟩ = some (.int .i64 xt) ∧ Hid (Both w g rb n bs r cap bs W)) (with_reducible assumption)
                  (first | (go_at_call 13; refine (round_len _ (by assumption)).mono ?_; rintro e w7 ⟨rfl, HW⟩) | (go_at_call 21; refine (round_rlen _ (by assumption)).mono ?_; rintro e w7 ⟨rfl, HW⟩) | (go_at_call 12; refine (round_room _ (by assumption)).mono ?_; rintro e w7 ⟨rfl, HW⟩) | (go_at_call 22; refine (round_rroom _ (by assumption)).mono ?_; rintro e w7 ⟨rfl, HW⟩))
                clear HSTART
                go_wp2
                go_roundw
                case rel => exact ⟨i + 1, r, cap, _, rfl, by go_num, by omega, HW.2⟩
                case measure => simp [intOf]; omega
        · have hi1 : ¬ (i : Int) < (len : Int) := by omega
          have HF := Lib.hid (allOf_le bs HH.out.f.len)
          have HL := Lib.hid HH.out.f.len
          have hnn := HH.out.n'
          go_wp2
          go_loopw [8, 23] (fun s8 s23 wr => ∃ j : Nat, Value.int .i64 (allOf (bs.take j) : Nat) = s8 ∧ Value.int .i64 j = s23 ∧ j ≤ n ∧ Hid (Both w g rb n bs r cap bs wr)) (fun _ s23 _ => n - (intOf s23).toNat)
          case atStart => exact ⟨0, by simp [allOf], rfl, by omega, HH⟩
          case round =>
            clear HH
            obtain ⟨j, hs8, hs23, hj, HH⟩ := hrel
            subst hs8 hs23
            have hs8 := HF.out j
            by_cases hlj : j < n
            · have hj0 : (0 : Int) ≤ (j : Int) := by omega
              have hj1 : (j : Int) < (n : Int) := by omega
              obtain ⟨b, hb⟩ : ∃ b, bs[j]? = some b := ⟨_, List.getElem?_eq_getElem (by omega)⟩
              have HT := Lib.hid (allOf_take bs j b hb)
              have HQ := Lib.hid (boxes_len j b hb)
              have hb8 := HL.out j b hb
              obtain ⟨ad, c, c0, c1, _⟩ := HH.out.f.at' j b hb
              have hlt := HH.out.f.lt
              have hal1 : (allOf (bs.take j) : Int) ≤ 512 := by omega
              have hal0 : (0 : Int) ≤ (allOf (bs.take j) : Int) := by omega
              have HALL := Lib.hid (rfl : allOf (bs.take j) = allOf (bs.take j))
              generalize hA : allOf (bs.take j) = al at *
              have HAE := Lib.hid hA
              clear hA hb c1 hs8
              have hb8' : (b.l.length : Int) ≤ 8 := by omega
              go_wp2_with fail
              have HSTART : wr.drew.cell? ⟨r, j * 2, none⟩ = some (.slice ad b.l.length c) ∧ Hid (Both w g rb n bs r cap bs wr.drew) := ⟨c0, Lib.hid (HH.out.quiet (below_drewN (Below.refl _ _) 1))⟩
              go_region_held3 (fun W => W.cell? ⟨r, j * 2, none⟩ = some (.slice ad b.l.length c) ∧ Hid (Both w g rb n bs r cap bs W)) (with_reducible assumption)
                (first | (go_at_call 13; refine (round_row _ (by assumption)).mono ?_; rintro e w7 ⟨rfl, HW⟩; rw [HQ.out]))
              clear HSTART
              go_wp2
              go_roundw
              case rel => exact ⟨j + 1, by rw [HT.out]; go_num, by go_num, by omega, HW.2⟩
              case measure => simp [intOf]; omega
            · have hj1 : ¬ (j : Int) < (n : Int) := by omega
              obtain rfl : j = n := by omega
              rw [List.take_of_length_le (by omega)]
              have HM := Lib.hid HH.out.m
              have hc := all_mine HM.out
              clear HF HL hs8
              go_wp2_with fail
              refine hc.mono ?_
              rintro e w7 ⟨rfl, HM7, _⟩
              have HM7 := Lib.hid HM7
              clear hc
              go_wp2
              go_ret
              exact ⟨rfl, HM7.out.b⟩
end Go.Proofs.Ytilnbgkepijfbaa
