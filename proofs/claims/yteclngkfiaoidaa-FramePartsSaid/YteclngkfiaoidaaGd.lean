/- The walk of FrameActs; condition: its arguments are slices of strings, and of bytes. -/
import Derived.Test.YteclngkfiaoidaaGb
namespace Go.Proofs.Yteclngkfiaoidaa
open Go.RowKit Go.Lib
set_option linter.unusedVariables false
set_option linter.unusedSimpArgs false

theorem list_mk (l : List UInt8) : (⟨l.toArray⟩ : ByteArray).data.toList = l := by simp

theorem St.len_le {w : World} {b : Nat} {r : Option Nat} {m : Nat} {l : List UInt8} (h : St w b r m l) : l.length ≤ m := by
  obtain ⟨bs, told, h1, h2, h3, rfl, h5⟩ := h
  simp; omega
theorem rnext_no (s : ByteArray) (w : World) (h : next s.data.toList = none) :
    Calls Try.prog 16 #[.string s] w fun e w' => e = .returned (.tuple #[.string ⟨#[]⟩, .string s, .bool false]) ∧ ∃ n, w' = w.drewN n := rnext_none s w h
theorem rnext_yes (s : ByteArray) (w : World) (t l' : List UInt8) (h : next s.data.toList = some (t, l')) :
    Calls Try.prog 16 #[.string s] w fun e w' => e = .returned (.tuple #[.string ⟨t.toArray⟩, .string ⟨l'.toArray⟩, .bool true]) ∧ ∃ n, w' = w.drewN n := by
  have := rnext_any s w
  unfold rnextV at this
  rwa [h] at this

theorem Own.drewN {B : Nat} {w0 : World} {b : Nat} {r : Option Nat} {m : Nat} {l : List UInt8} {w : World} (h : Own B w0 b r m l w) (n : Nat) : Own B w0 b r m l (w.drewN n) :=
  h.grow (below_drewN (Below.refl _ _) n)

set_option maxRecDepth 100000 in
set_option maxHeartbeats 8000000 in
theorem acts_walk (A A2 : Option Addr) (ss : List ByteArray) (ask : List Int) (cap cap2 : Nat) (w : World) (hl : IsStrs w A ss.length cap ss) (ha : IsInts .u8 w A2 ask.length cap2 ask) :
    Calls Try.prog 4 #[.slice A ss.length cap, .slice A2 ask.length cap2] w fun e w' => e = .returned (.bool true) ∧ Below w.heap.size w w' := by
  by_cases h : 60 < ss.length
  · clear hl ha
    go_enter Try.func4, Try.ntmps4
    go_wp2_with fail
    refine (shown_any _).mono ?_
    rintro e w1 ⟨rfl, hb⟩
    go_wp2
    go_ret
    exact ⟨rfl, hb⟩
  · by_cases h2 : 60 < ask.length
    · clear hl ha
      go_enter Try.func4, Try.ntmps4
      go_wp2_with fail
      refine (shown_any _).mono ?_
      rintro e w1 ⟨rfl, hb⟩
      go_wp2
      go_ret
      exact ⟨rfl, hb⟩
    · obtain ⟨_, hlc, hcm, _, hcell, _⟩ := hl
      obtain ⟨_, hlc2, hcm2, _, hcell2, hwf2⟩ := ha
      have HC := Lib.hid hcell
      have HA := Lib.hid hcell2
      have HW := Lib.hid hwf2
      clear hcell hcm hlc hcell2 hcm2 hlc2 hwf2
      have hlen : ss.length ≤ 60 := by omega
      have hlen2 : ask.length ≤ 60 := by omega
      go_enter Try.func4, Try.ntmps4
      go_wp2_with fail
      refine (shown_any _).mono ?_
      rintro e w1 ⟨rfl, hb⟩
      have hown := Own.new hb
      have HO := Lib.hid hown
      clear hown
      go_wp2_with fail
      go_loopw [6, 7] (fun s6 s7 wr => ∃ (i m : Nat) (r : Option Nat) (R : ByteArray), i ≤ ss.length ∧ s7 = .int .i64 i ∧ s6 = .string R ∧ m ≤ 1500 * i ∧ R.size ≤ m ∧ Hid (Own w.heap.size w w1.heap.size r m R.data.toList wr)) (fun _ s7 _ => ss.length - (intOf s7).toNat)
      case atStart => exact ⟨0, 0, none, ⟨#[]⟩, by omega, rfl, rfl, by omega, by decide, HO⟩
      case round =>
        clear HO hb
        obtain ⟨i, m, r, R, hi, rfl, rfl, hm, hR, HO⟩ := hrel
        by_cases hlt : i < ss.length
        · obtain ⟨ab, off, rfl, hab, hc⟩ := HC.out i hlt
          have hcw : ∀ W, Below w.heap.size w W → W.cell? ⟨ab, off + i, none⟩ = some (.string (ss.getD i ByteArray.empty)) := fun W hb => (hb.cell (p := ⟨ab, off + i, none⟩) hab).trans hc
          generalize ss.getD i ByteArray.empty = s at *
          have c1 := hcw _ HO.out.bel
          have HCW := Lib.hid hcw
          clear hc hcw hab
          by_cases hs : 1500 < s.size
          · go_wp2_with fail
            refine (shown_any _).mono ?_
            rintro e w2 ⟨rfl, hb2⟩
            go_wp2
            go_ret
            exact ⟨rfl, HO.out.bel.trans (hb2.mono HO.out.siz)⟩
          · go_wp2_with fail
            refine (put_any s _).mono ?_
            rintro e w2 ⟨rfl, hb2⟩
            have HO2 := Lib.hid (HO.out.grow hb2)
            have c2 := HCW.out _ HO2.out.bel
            clear HO hb2 c1
            go_wp2_with fail
            refine (rput_any s _ (by omega)).mono ?_
            rintro e w3 ⟨rfl, hb3⟩
            have HO3 := Lib.hid (HO2.out.grow hb3)
            have c3 := HCW.out _ HO3.out.bel
            clear HO2 hb3 c2
            generalize putV s = pv at *
            generalize putE s = pe at *
            have hrb := rbad_any R w3
            cases hB : bad R.data.toList with
            | true =>
              rw [hB] at hrb
              have HB := Lib.hid hB
              clear hB
              go_wp2_with fail
              refine hrb.mono ?_
              rintro e w4 ⟨rfl, k4, rfl⟩
              have HO4 := Lib.hid (HO3.out.drewN k4)
              clear HO3 hrb
              go_wp2_with fail
              refine (push_bad _ _ _ _ s _ HO4.out.st (by omega) HB.out).mono ?_
              rintro e w6 ⟨r6, rfl, p6, q6⟩
              have HO6 := Lib.hid (HO4.out.step p6 q6)
              clear HO4 p6 q6 c3 HB
              go_wp2_with fail
              go_loopw [6, 13] (fun s6 s13 wr => ∃ (k : Nat) (r' : Option Nat) (R' : ByteArray), s13 = .int .i64 k ∧ s6 = .string R' ∧ k ≤ 5 ∧ R'.size ≤ m ∧ Hid (Own w.heap.size w w1.heap.size r' (m) R'.data.toList wr)) (fun _ s13 _ => 6 - (intOf s13).toNat)
              case atStart => exact ⟨0, _, _, rfl, rfl, by omega, hR, HO6⟩
              case round =>
                clear HO6
                obtain ⟨k, r', R', rfl, rfl, hk5, hRs, HO7⟩ := hrel
                have fin : ∀ (r2 : Option Nat) (W : World), Own w.heap.size w w1.heap.size r2 (m) R'.data.toList W → True := fun _ _ _ => trivial
                clear fin
                by_cases hA : i < ask.length
                · obtain ⟨ab2, off2, rfl, hab2, hca⟩ := HA.out i hA
                  have hx := HW.out (ask.getD i 0) (by rw [List.getD_eq_getElem?_getD, List.getElem?_eq_getElem hA]; simp)
                  have hxb := bounds_u8 hx
                  have hca2 := (HO7.out.bel.cell (p := ⟨ab2, off2 + i, none⟩) hab2).trans hca
                  generalize ask.getD i 0 = x at *
                  obtain ⟨x0, x1⟩ := hxb
                  clear hx hca hab2
                  by_cases hk : (k : Int) < x % 5
                  · cases hn : next R'.data.toList with
                    | none =>
                      have hnx := next_no _ _ _ _ _ HO7.out.st hn
                      have hrn := fun W => rnext_no R' W hn
                      clear hn
                      go_wp2_with fail
                      refine hnx.mono ?_
                      rintro e w7 ⟨r7, rfl, p7, q7⟩
                      have HO8 := Lib.hid (HO7.out.step p7 q7)
                      clear HO7 hnx p7 q7 hca2
                      go_wp2_with fail
                      refine (hrn _).mono ?_
                      rintro e w8 ⟨rfl, k8, rfl⟩
                      have HO9 := Lib.hid (HO8.out.drewN k8)
                      clear HO8 hrn
                      go_wp2
                      go_roundw
                      case rel => exact ⟨k + 1, _, R', by go_num, rfl, by omega, hRs, HO9⟩
                      case measure => simp [intOf]; omega
                    | some tl =>
                      obtain ⟨t, l'⟩ := tl
                      have hnx := next_yes _ _ _ _ _ _ _ HO7.out.st hn
                      have hrn := fun W => rnext_yes R' W t l' hn
                      have hsz : (⟨l'.toArray⟩ : ByteArray).size ≤ m := by
                        have e := (next_len hn).1
                        rw [size_list] at e
                        show l'.length ≤ _
                        omega
                      have HSZ := Lib.hid hsz
                      clear hn hsz
                      go_wp2_with fail
                      refine hnx.mono ?_
                      rintro e w7 ⟨r7, rfl, p7, q7⟩
                      have HO8 := Lib.hid (HO7.out.step p7 q7)
                      clear HO7 hnx p7 q7 hca2
                      go_wp2_with fail
                      refine (hrn _).mono ?_
                      rintro e w8 ⟨rfl, k8, rfl⟩
                      have HO9 := Lib.hid (HO8.out.drewN k8)
                      clear HO8 hrn
                      go_wp2
                      go_roundw
                      case rel => exact ⟨k + 1, _, ⟨l'.toArray⟩, by go_num, rfl, by omega, HSZ.out, Lib.hid (by rw [list_mk]; exact HO9.out)⟩
                      case measure => simp [intOf]; omega
                  · go_wp2_with fail
                    have hlf := left_st _ _ _ _ _ HO7.out.st
                    rw [size_list] at hlf
                    refine hlf.mono ?_
                    rintro e w9 ⟨r9, rfl, p9, q9⟩
                    have HO10 := Lib.hid (HO7.out.step p9 q9)
                    clear HO7 hlf p9 q9
                    go_wp2_with fail
                    refine (bad_any _ _ _ _ _ HO10.out.st).mono ?_
                    rintro e w10 ⟨r10, rfl, p10, q10⟩
                    have HO11 := Lib.hid (HO10.out.step p10 q10)
                    clear HO10 p10 q10
                    go_wp2_with fail
                    refine (rbad_any R' _).mono ?_
                    rintro e w11 ⟨rfl, k11, rfl⟩
                    have HO12 := Lib.hid (HO11.out.drewN k11)
                    clear HO11
                    generalize bad R'.data.toList = bb at *
                    go_wp2
                    go_roundw
                    case rel => exact ⟨i + 1, m, _, R', by omega, by go_num, rfl, by omega, hRs, HO12⟩
                    case measure => simp [intOf]; omega
                · go_wp2_with fail
                  have hlf := left_st _ _ _ _ _ HO7.out.st
                  rw [size_list] at hlf
                  refine hlf.mono ?_
                  rintro e w9 ⟨r9, rfl, p9, q9⟩
                  have HO10 := Lib.hid (HO7.out.step p9 q9)
                  clear HO7 hlf p9 q9
                  go_wp2_with fail
                  refine (bad_any _ _ _ _ _ HO10.out.st).mono ?_
                  rintro e w10 ⟨r10, rfl, p10, q10⟩
                  have HO11 := Lib.hid (HO10.out.step p10 q10)
                  clear HO10 p10 q10
                  go_wp2_with fail
                  refine (rbad_any R' _).mono ?_
                  rintro e w11 ⟨rfl, k11, rfl⟩
                  have HO12 := Lib.hid (HO11.out.drewN k11)
                  clear HO11
                  generalize bad R'.data.toList = bb at *
                  go_wp2
                  go_roundw
                  case rel => exact ⟨i + 1, m, _, R', by omega, by go_num, rfl, by omega, hRs, HO12⟩
                  case measure => simp [intOf]; omega
            | false =>
              rw [hB] at hrb
              have HB := Lib.hid hB
              have hcat : (R ++ s).size ≤ m + s.size := by rw [← size_list, list_append, List.length_append, size_list, size_list]; omega
              have hcl : (R ++ s).data.toList = R.data.toList ++ s.data.toList := list_append R s
              have hov : R.size + s.size ≤ 9223372036854775807 := by omega
              have HCAT := Lib.hid hcat
              have HCL := Lib.hid hcl
              clear hB hcat hcl
              go_wp2_with fail
              refine hrb.mono ?_
              rintro e w4 ⟨rfl, k4, rfl⟩
              have HO4 := Lib.hid (HO3.out.drewN k4)
              clear HO3 hrb
              go_wp2_with fail
              refine (push_ok _ _ _ _ s _ HO4.out.st (by omega) HB.out).mono ?_
              rintro e w6 ⟨r6, rfl, p6, q6⟩
              have HO6 := Lib.hid (HO4.out.step p6 q6)
              rw [← HCL.out] at HO6
              clear HO4 p6 q6 c3 HB
              go_wp2_with fail
              go_loopw [6, 13] (fun s6 s13 wr => ∃ (k : Nat) (r' : Option Nat) (R' : ByteArray), s13 = .int .i64 k ∧ s6 = .string R' ∧ k ≤ 5 ∧ R'.size ≤ m + s.size ∧ Hid (Own w.heap.size w w1.heap.size r' (m + s.size) R'.data.toList wr)) (fun _ s13 _ => 6 - (intOf s13).toNat)
              case atStart => exact ⟨0, _, _, rfl, rfl, by omega, HCAT.out, HO6⟩
              case round =>
                clear HO6
                obtain ⟨k, r', R', rfl, rfl, hk5, hRs, HO7⟩ := hrel
                have fin : ∀ (r2 : Option Nat) (W : World), Own w.heap.size w w1.heap.size r2 (m + s.size) R'.data.toList W → True := fun _ _ _ => trivial
                clear fin
                by_cases hA : i < ask.length
                · obtain ⟨ab2, off2, rfl, hab2, hca⟩ := HA.out i hA
                  have hx := HW.out (ask.getD i 0) (by rw [List.getD_eq_getElem?_getD, List.getElem?_eq_getElem hA]; simp)
                  have hxb := bounds_u8 hx
                  have hca2 := (HO7.out.bel.cell (p := ⟨ab2, off2 + i, none⟩) hab2).trans hca
                  generalize ask.getD i 0 = x at *
                  obtain ⟨x0, x1⟩ := hxb
                  clear hx hca hab2
                  by_cases hk : (k : Int) < x % 5
                  · cases hn : next R'.data.toList with
                    | none =>
                      have hnx := next_no _ _ _ _ _ HO7.out.st hn
                      have hrn := fun W => rnext_no R' W hn
                      clear hn
                      go_wp2_with fail
                      refine hnx.mono ?_
                      rintro e w7 ⟨r7, rfl, p7, q7⟩
                      have HO8 := Lib.hid (HO7.out.step p7 q7)
                      clear HO7 hnx p7 q7 hca2
                      go_wp2_with fail
                      refine (hrn _).mono ?_
                      rintro e w8 ⟨rfl, k8, rfl⟩
                      have HO9 := Lib.hid (HO8.out.drewN k8)
                      clear HO8 hrn
                      go_wp2
                      go_roundw
                      case rel => exact ⟨k + 1, _, R', by go_num, rfl, by omega, hRs, HO9⟩
                      case measure => simp [intOf]; omega
                    | some tl =>
                      obtain ⟨t, l'⟩ := tl
                      have hnx := next_yes _ _ _ _ _ _ _ HO7.out.st hn
                      have hrn := fun W => rnext_yes R' W t l' hn
                      have hsz : (⟨l'.toArray⟩ : ByteArray).size ≤ m + s.size := by
                        have e := (next_len hn).1
                        rw [size_list] at e
                        show l'.length ≤ _
                        omega
                      have HSZ := Lib.hid hsz
                      clear hn hsz
                      go_wp2_with fail
                      refine hnx.mono ?_
                      rintro e w7 ⟨r7, rfl, p7, q7⟩
                      have HO8 := Lib.hid (HO7.out.step p7 q7)
                      clear HO7 hnx p7 q7 hca2
                      go_wp2_with fail
                      refine (hrn _).mono ?_
                      rintro e w8 ⟨rfl, k8, rfl⟩
                      have HO9 := Lib.hid (HO8.out.drewN k8)
                      clear HO8 hrn
                      go_wp2
                      go_roundw
                      case rel => exact ⟨k + 1, _, ⟨l'.toArray⟩, by go_num, rfl, by omega, HSZ.out, Lib.hid (by rw [list_mk]; exact HO9.out)⟩
                      case measure => simp [intOf]; omega
                  · go_wp2_with fail
                    have hlf := left_st _ _ _ _ _ HO7.out.st
                    rw [size_list] at hlf
                    refine hlf.mono ?_
                    rintro e w9 ⟨r9, rfl, p9, q9⟩
                    have HO10 := Lib.hid (HO7.out.step p9 q9)
                    clear HO7 hlf p9 q9
                    go_wp2_with fail
                    refine (bad_any _ _ _ _ _ HO10.out.st).mono ?_
                    rintro e w10 ⟨r10, rfl, p10, q10⟩
                    have HO11 := Lib.hid (HO10.out.step p10 q10)
                    clear HO10 p10 q10
                    go_wp2_with fail
                    refine (rbad_any R' _).mono ?_
                    rintro e w11 ⟨rfl, k11, rfl⟩
                    have HO12 := Lib.hid (HO11.out.drewN k11)
                    clear HO11
                    generalize bad R'.data.toList = bb at *
                    go_wp2
                    go_roundw
                    case rel => exact ⟨i + 1, m + s.size, _, R', by omega, by go_num, rfl, by omega, hRs, HO12⟩
                    case measure => simp [intOf]; omega
                · go_wp2_with fail
                  have hlf := left_st _ _ _ _ _ HO7.out.st
                  rw [size_list] at hlf
                  refine hlf.mono ?_
                  rintro e w9 ⟨r9, rfl, p9, q9⟩
                  have HO10 := Lib.hid (HO7.out.step p9 q9)
                  clear HO7 hlf p9 q9
                  go_wp2_with fail
                  refine (bad_any _ _ _ _ _ HO10.out.st).mono ?_
                  rintro e w10 ⟨r10, rfl, p10, q10⟩
                  have HO11 := Lib.hid (HO10.out.step p10 q10)
                  clear HO10 p10 q10
                  go_wp2_with fail
                  refine (rbad_any R' _).mono ?_
                  rintro e w11 ⟨rfl, k11, rfl⟩
                  have HO12 := Lib.hid (HO11.out.drewN k11)
                  clear HO11
                  generalize bad R'.data.toList = bb at *
                  go_wp2
                  go_roundw
                  case rel => exact ⟨i + 1, m + s.size, _, R', by omega, by go_num, rfl, by omega, hRs, HO12⟩
                  case measure => simp [intOf]; omega
        · go_wp2_with fail
          refine (left_st _ _ _ _ _ HO.out.st).mono ?_
          rintro e w2 ⟨r2, rfl, p2, q2⟩
          have HO2 := Lib.hid (HO.out.step p2 q2)
          clear HO p2 q2
          rw [size_list]
          go_wp2
          go_ret
          exact ⟨rfl, HO2.out.bel⟩
end Go.Proofs.Yteclngkfiaoidaa
