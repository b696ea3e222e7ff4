/- The walk of PostRoom; no condition. -/
import Derived.Test.YtilnbgkepijfbaaPh
import Derived.Test.YtilnbgkepijfbaaArgs
namespace Go.Proofs.Ytilnbgkepijfbaa
open Go.RowKit
set_option linter.unusedVariables false
set_option linter.unusedSimpArgs false

def two (l : List Letter) : List Bx := [⟨l, false⟩, ⟨[], false⟩]
theorem two_room (l : List Letter) : roomOf (two l) 0 = 8 - l.length := rfl
theorem two_len (l : List Letter) : lenOf (two l) 0 = l.length := rfl
theorem two_takeE (l : List Letter) : takeE (two l) 0 = if l = [] then 3 else 0 := by cases l <;> rfl
theorem two_takeS (l : List Letter) : takeS (two l) 0 = two l.tail := by cases l <;> rfl
theorem two_sendE (l : List Letter) : sendE (two l) Letter.zero = if l.length = 8 then 160 else 0 := rfl
theorem two_sendS (l : List Letter) : sendS (two l) Letter.zero = two (if l.length = 8 then l else l ++ [Letter.zero]) := by
  show (if l.length = 8 then two l else two (l ++ [Letter.zero])) = _
  split <;> rfl
theorem two_out (l : List Letter) (k : Int) (h0 : k ≠ 0) (h1 : k ≠ 1) : boxOf (two l) k = none := by
  unfold boxOf
  split
  · obtain ⟨n, rfl⟩ := Int.eq_ofNat_of_zero_le ‹0 ≤ k›
    match n, h0, h1 with
    | n + 2, _, _ => rfl
    | 0, h, _ => simp at h
    | 1, _, h => simp at h
  · rfl
theorem two_close (l : List Letter) (k : Int) : closeE (two l) k = (if k = 0 ∨ k = 1 then 0 else 3) ∧ roomOf (closeS (two l) k) k = 0 ∧ lenOf (closeS (two l) k) k = 0 := by
  by_cases h0 : k = 0
  · subst h0; exact ⟨rfl, rfl, rfl⟩
  · by_cases h1 : k = 1
    · subst h1; exact ⟨rfl, rfl, rfl⟩
    · have := two_out l k h0 h1
      rw [if_neg (by omega)]
      refine ⟨by simp [closeE, this], ?_, ?_⟩ <;> simp [closeS, this, roomOf, lenOf]

set_option maxHeartbeats 8000000 in
theorem room_walk (a0 : Option Addr) (z : List Int) (cap : Nat) (box : Int) (w : World) (h : IsInts .u8 w a0 z.length cap z) :
    Calls Try.prog 4 #[.slice a0 z.length cap, .int .i64 box] w fun e w' => e = .returned (.bool true) ∧ Below w.heap.size w w' := by
  obtain ⟨_, hcap, hmax, hnil, hat, hwf⟩ := h
  have HAT := Lib.hid hat
  have HWF := Lib.hid hwf
  clear hat hwf hnil
  have hsh := shown_any w
  by_cases hbig : z.length > 100
  · have hb2 : (z.length : Int) > 100 := by omega
    have hlm : (z.length : Int) ≤ 9223372036854775807 := by simp [maxLen] at hmax; omega
    go_enter Try.func4, Try.ntmps4
    go_wp2_with fail
    refine hsh.mono ?_
    rintro e w1 ⟨rfl, hb1⟩
    go_wp2
    go_ret
    exact ⟨rfl, hb1⟩
  · have hb2 : ¬ (z.length : Int) > 100 := by omega
    have hb3 : (z.length : Int) ≤ 100 := by omega
    clear hbig hmax
    go_enter Try.func4, Try.ntmps4
    go_wp2_with fail
    refine hsh.mono ?_
    rintro e w1 ⟨rfl, hb1⟩
    have HB1 := Lib.hid hb1
    clear hb1 hsh
    go_wp2_with fail
    refine (new_any 2 w1 (by omega) (by omega)).mono ?_
    intro e w2 h1
    obtain ⟨g, rb, rfl, HM⟩ := h1.mine HB1.out
    clear h1 HB1
    have HM := Lib.hid (show Mine w g rb (two []) w2 from HM)
    go_wp2
    go_loopw [6] (fun s6 wr => ∃ (i : Nat) (l : List Letter), Value.int .i64 i = s6 ∧ i ≤ z.length ∧ l.length ≤ 8 ∧ Hid (Mine w g rb (two l) wr)) (fun s6 _ => z.length - (intOf s6).toNat)
    case atStart => exact ⟨0, [], rfl, by omega, by simp, HM⟩
    case round =>
      clear HM
      obtain ⟨i, l, hs, hi, hl, HM⟩ := hrel
      subst hs
      by_cases hlt : i < z.length
      · have hi1 : (i : Int) < (z.length : Int) := by omega
        have hi0 : (0 : Int) ≤ (i : Int) := by omega
        have hc := room_mine HM.out 0
        rw [two_room] at hc
        generalize hrm : (8 : Int) - (l.length : Int) = rm at hc
        have HR := Lib.hid hrm
        clear hrm
        go_wp2_with fail
        refine hc.mono ?_
        rintro e w3 ⟨rfl, HM3, hb3'⟩
        have HM3 := Lib.hid HM3
        clear hc hb3' HM
        obtain ⟨b, off, rfl, hblt, hcell⟩ := HAT.out i hlt
        have c0 := (HM3.out.b.cell (p := ⟨b, off + i, none⟩) hblt).trans hcell
        have hx := HWF.out (z.getD i 0) (by simp [List.getD_eq_getElem?_getD, hlt])
        generalize z.getD i 0 = x at *
        have hx0 : 0 ≤ x ∧ x ≤ 255 := by simp [Lit.wf, show IntKind.u8.min = 0 from rfl, show IntKind.u8.max = 255 from rfl] at hx; omega
        obtain ⟨hx0, hx1⟩ := hx0
        clear hx hcell
        have hblt2 := World.block_lt_of_cell? w3 _ c0
        have HM3' := HM3
        clear HM3
        by_cases hm : x % 3 = 0
        · go_wp2_with fail
          have hc := take_mine HM3'.out 0
          cases l with
          | nil =>
            have hE : takeE (two []) 0 = 3 := rfl
            have hS : takeS (two []) 0 = two [] := rfl
            rw [hE, hS] at hc
            refine hc.mono ?_
            rintro e w4 ⟨rfl, HM4⟩
            have HM4 := Lib.hid HM4
            clear hc hE hS HM3'
            obtain rfl : rm = 8 := by have := HR.out; simp at this; omega
            go_wp2_with fail
            refine (room_mine HM4.out 0).mono ?_
            rintro e w5 ⟨rfl, HM5, _⟩
            have HM5 := Lib.hid HM5
            clear HM4
            rw [two_room]
            go_wp2_with fail
            refine (len_mine HM5.out 0).mono ?_
            rintro e w6 ⟨rfl, HM6, _⟩
            have HM6 := Lib.hid HM6
            clear HM5
            rw [two_len]
            simp only [List.length_nil]
            go_wp2
            go_roundw
            case rel => exact ⟨i + 1, [], by go_num, by omega, by simp, HM6⟩
            case measure => simp [intOf]; omega
          | cons y l =>
            have hE : takeE (two (y :: l)) 0 = 0 := rfl
            have hS : takeS (two (y :: l)) 0 = two l := rfl
            rw [hE, hS] at hc
            refine hc.mono ?_
            rintro e w4 ⟨rfl, HM4⟩
            have HM4 := Lib.hid HM4
            clear hc hE hS HM3'
            have hl' : l.length + 1 ≤ 8 := hl
            have hlt8 : rm < 8 := by have := HR.out; simp at this; omega
            go_wp2_with fail
            refine (room_mine HM4.out 0).mono ?_
            rintro e w5 ⟨rfl, HM5, _⟩
            have HM5 := Lib.hid HM5
            clear HM4
            rw [two_room]
            go_wp2_with fail
            refine (len_mine HM5.out 0).mono ?_
            rintro e w6 ⟨rfl, HM6, _⟩
            have HM6 := Lib.hid HM6
            clear HM5 hlt8
            rw [two_len]
            have h88 : (8 : Int) - (l.length : Int) + (l.length : Int) = 8 := by omega
            go_wp2
            go_roundw
            case rel => exact ⟨i + 1, l, by go_num, by omega, by omega, HM6⟩
            case measure => simp [intOf]; omega
        · go_wp2_with fail
          have hc := send_mine HM3'.out Letter.zero
          rw [two_sendE, two_sendS] at hc
          by_cases h8 : l.length = 8
          · rw [if_pos h8, if_pos h8] at hc
            refine hc.mono ?_
            rintro e w4 ⟨rfl, HM4⟩
            have HM4 := Lib.hid HM4
            clear hc HM3'
            obtain rfl : rm = 0 := by have := HR.out; omega
            go_wp2_with fail
            refine (room_mine HM4.out 0).mono ?_
            rintro e w5 ⟨rfl, HM5, _⟩
            have HM5 := Lib.hid HM5
            clear HM4
            rw [two_room, h8]
            go_wp2_with fail
            refine (len_mine HM5.out 0).mono ?_
            rintro e w6 ⟨rfl, HM6, _⟩
            have HM6 := Lib.hid HM6
            clear HM5
            rw [two_len, h8]
            go_wp2
            go_roundw
            case rel => exact ⟨i + 1, l, by go_num, by omega, by omega, HM6⟩
            case measure => simp [intOf]; omega
          · rw [if_neg h8, if_neg h8] at hc
            refine hc.mono ?_
            rintro e w4 ⟨rfl, HM4⟩
            have HM4 := Lib.hid HM4
            clear hc HM3'
            have hpos : rm > 0 := by have := HR.out; omega
            go_wp2_with fail
            refine (room_mine HM4.out 0).mono ?_
            rintro e w5 ⟨rfl, HM5, _⟩
            have HM5 := Lib.hid HM5
            clear HM4
            have hl2 : (l ++ [Letter.zero]).length = l.length + 1 := by simp
            rw [two_room]
            go_wp2_with fail
            refine (len_mine HM5.out 0).mono ?_
            rintro e w6 ⟨rfl, HM6, _⟩
            have HM6 := Lib.hid HM6
            clear HM5
            rw [two_len]
            generalize l ++ [Letter.zero] = l2 at *
            have h88 : (8 : Int) - (l2.length : Int) + (l2.length : Int) = 8 := by omega
            clear hpos
            have hle : l2.length ≤ 8 := by omega
            go_wp2
            go_roundw
            case rel => exact ⟨i + 1, l2, by go_num, by omega, by omega, HM6⟩
            case measure => simp [intOf]; omega
      · have hi1 : ¬ (i : Int) < (z.length : Int) := by omega
        obtain ⟨hE, hR, hL⟩ := two_close l box
        have hc := close_mine HM.out box
        have HRL := Lib.hid (And.intro hR hL)
        clear hR hL
        have hin : (if box = 0 ∨ box = 1 then (0 : Int) else 3) = if 0 ≤ box ∧ box < 2 then 0 else 3 := by
          by_cases h1 : box = 0 ∨ box = 1
          · rw [if_pos h1, if_pos (by omega)]
          · rw [if_neg h1, if_neg (by omega)]
        rw [hE, hin] at hc
        clear hE hin
        by_cases g0 : 0 ≤ box
        · by_cases g1 : box < 2
          · rw [if_pos ⟨g0, g1⟩] at hc
            go_wp2_with fail
            refine hc.mono ?_
            rintro e w3 ⟨⟨v, rfl, _⟩, HM3⟩
            have HM3 := Lib.hid HM3
            clear hc
            go_wp2_with fail
            refine (room_mine HM3.out box).mono ?_
            rintro e w4 ⟨rfl, HM4, _⟩
            have HM4 := Lib.hid HM4
            rw [HRL.out.1]
            go_wp2_with fail
            refine (len_mine HM4.out box).mono ?_
            rintro e w5 ⟨rfl, HM5, _⟩
            have HM5 := Lib.hid HM5
            rw [HRL.out.2]
            go_wp2
            go_ret
            exact ⟨rfl, HM5.out.b⟩
          · have g2 : ¬ (0 ≤ box ∧ box < 2) := fun h => g1 h.2
            rw [if_neg g2] at hc
            clear g2
            go_wp2_with fail
            refine hc.mono ?_
            rintro e w3 ⟨⟨v, rfl, _⟩, HM3⟩
            have HM3 := Lib.hid HM3
            clear hc
            go_wp2_with fail
            refine (room_mine HM3.out box).mono ?_
            rintro e w4 ⟨rfl, HM4, _⟩
            have HM4 := Lib.hid HM4
            rw [HRL.out.1]
            go_wp2_with fail
            refine (len_mine HM4.out box).mono ?_
            rintro e w5 ⟨rfl, HM5, _⟩
            have HM5 := Lib.hid HM5
            rw [HRL.out.2]
            go_wp2
            go_ret
            exact ⟨rfl, HM5.out.b⟩
        · have g2 : ¬ (0 ≤ box ∧ box < 2) := fun h => g0 h.1
          rw [if_neg g2] at hc
          clear g2
          go_wp2_with fail
          refine hc.mono ?_
          rintro e w3 ⟨⟨v, rfl, _⟩, HM3⟩
          have HM3 := Lib.hid HM3
          clear hc
          go_wp2_with fail
          refine (room_mine HM3.out box).mono ?_
          rintro e w4 ⟨rfl, HM4, _⟩
          have HM4 := Lib.hid HM4
          rw [HRL.out.1]
          go_wp2_with fail
          refine (len_mine HM4.out box).mono ?_
          rintro e w5 ⟨rfl, HM5, _⟩
          have HM5 := Lib.hid HM5
          rw [HRL.out.2]
          go_wp2
          go_ret
          exact ⟨rfl, HM5.out.b⟩
end Go.Proofs.Ytilnbgkepijfbaa
