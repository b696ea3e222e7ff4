/- The walk of shown; no condition. -/
import Derived.Test.YtgehdkbjcpdjoaaDoorLs
namespace Go.Proofs.YtgehdkbjcpdjoaaDoor
open Go.RowKit
set_option linter.unusedVariables false
set_option linter.unusedSimpArgs false

def stp (ch cap ours : Int) : Stp := ⟨ch, cap, ours, List.replicate 32 (.int .u8 0), ⟨#[]⟩, ⟨#[]⟩⟩
theorem stp_ok (ch cap ours : Int) (c0 : 0 ≤ ch) (c1 : ch < 4294967296) (p0 : 0 ≤ cap) (p1 : cap < 18446744073709551616) (o0 : 0 ≤ ours) (o1 : ours < 18446744073709551616) : (stp ch cap ours).ok :=
  ⟨c0, c1, p0, p1, o0, o1, by simp [stp], fun v hv => by rw [show (stp ch cap ours).seed = List.replicate 32 (Value.int .u8 0) from rfl, List.mem_replicate] at hv; rw [hv.2]; rfl, rfl, rfl⟩

set_option maxRecDepth 100000 in
set_option maxHeartbeats 4000000 in
theorem shown_any (w : World) : Calls Tryd.prog 5 #[] w fun e w' => e = .returned (.bool true) ∧ Below w.heap.size w w' := by
  have hE : openE 10 [] (stp 1 9 4) = 0 := by decide
  go_enter Tryd.func5, Tryd.ntmps5
  go_wp2_with fail
  refine (node_new 10 (by decide) (by decide) w).mono ?_
  rintro e W ⟨g, r, rfl, hn, hb⟩
  have HB := Lib.hid hb
  have hop := open_any g r w.heap.size 10 [] (stp 1 9 4) (stp_ok _ _ _ (by decide) (by decide) (by decide) (by decide) (by decide) (by decide)) W hn hb.size (by decide) (by decide)
  have HOP := Lib.hid hop
  have HE := Lib.hid hE
  clear hn hb hop hE
  go_wp2_with fail
  refine (show Calls Tryd.prog 6 #[_, (stp 1 9 4).val] _ _ from HOP.out.mono ?_)
  rintro e W1 h
  rcases h with ⟨h, _⟩ | ⟨_, rfl, ⟨p, hp, hn⟩, hb1⟩
  · exact absurd HE.out h
  have HN := Lib.hid (show NodeAt W1 g r w.heap.size 6 [p] from hn)
  have HB1 := Lib.hid (HB.out.trans hb1)
  have HP := Lib.hid hp
  have HK := Lib.hid (show p.s.ok by rw [hp]; exact stp_ok _ _ _ (by decide) (by decide) (by decide) (by decide) (by decide) (by decide))
  clear hn hb1 hp HOP HE
  simp only [List.length_nil]
  go_wp2_with fail
  refine (list_one g r w.heap.size 6 p HK.out W1 HN.out HB1.out.size).mono ?_
  rintro e W2 ⟨b, c, rfl, hc, hcell, hb2⟩
  have HN2 := Lib.hid (HN.out.quiet hb2)
  have HB2 := Lib.hid (HB1.out.trans (hb2.mono HB1.out.size))
  have hrow : rowOf p = [.int .u32 1, .int .u64 4, .int .u64 5, .int .u64 0, .bool false] := by unfold rowOf; rw [HP.out]; rfl
  rw [hrow] at hcell
  have x0 := hcell 0 _ rfl
  have x1 := hcell 1 _ rfl
  have x2 := hcell 2 _ rfl
  have x3 := hcell 3 _ rfl
  have x4 := hcell 4 _ rfl
  have hbl := World.block_lt_of_cell? _ _ x0
  clear hb2 hcell hrow HN
  go_wp2_with fail
  refine (funds_any g r w.heap.size 6 [p] W2 HN2.out).mono ?_
  rintro e w' ⟨rfl, rfl⟩
  have hfine : Fine [p] := fun q hq => by simp at hq; subst hq; exact ⟨HK.out, by rw [HP.out]; decide⟩
  have htot := total_any g r w.heap.size 6 [p] hfine w' HN2.out (by decide) (by decide)
  have hh : (6 : Int) + hasOf [p] = 10 := by simp [hasOf, HP.out, stp]
  rw [hh] at htot
  have HT := Lib.hid htot
  clear hfine htot hh
  go_wp2_with fail
  refine HT.out.mono ?_
  rintro e W3 ⟨rfl, hb3⟩
  have HB3 := Lib.hid (HB2.out.trans (hb3.mono HB2.out.size))
  clear x0 x1 x2 x3 x4 hbl hb3 HT
  go_wp2
  go_ret
  exact ⟨rfl, HB3.out⟩
end Go.Proofs.YtgehdkbjcpdjoaaDoor
