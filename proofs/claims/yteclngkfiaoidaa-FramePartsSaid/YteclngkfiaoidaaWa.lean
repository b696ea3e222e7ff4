/- The walks of strings.Builder's calls on a splitter's head; conditions: the bytes are fewer than 2^47. -/
import Derived.Test.YteclngkfiaoidaaRows
import Derived.Test.YteclngkfiaoidaaSp
import Derived.WalkKit
import Derived.WalkSpells
import Derived.WalkLawsBesides
import Derived.Lib.Hide
import Derived.WalkSmall
import Derived.BigQuiet
import Derived.Deep.QuietTactic
import Derived.RegionTactic
import Derived.Laws.Externs
namespace Go.Proofs.Yteclngkfiaoidaa
open Go.RowKit Go.Lib
set_option linter.unusedVariables false
set_option linter.unusedSimpArgs false

theorem infoByte : (Try.prog.info? 5).map (fun i => (i.zero, i.size, i.bytes)) = some (some (.int .u8 0), 1, 1) := by kernel_rfl
theorem infoBuilder : (Try.prog.info? 28).map (fun i => i.size) = some 2 := by kernel_rfl
theorem liesB : liesAt Try.prog Try.prog.depth 32 (3 / Try.prog.cellsOf 32) 0 28 1 = true := by kernel_rfl

set_option maxHeartbeats 1000000 in
theorem copy_used (b : Nat) (w : World) (h0 : w.cell? ⟨b, 0, none⟩ = some (.pointer (some ⟨b, 0, none⟩))) :
    Calls Try.prog 22 #[.pointer (some ⟨b, 0, none⟩)] w fun e w' => e = .returned (.tuple #[]) ∧ w' = w := by
  obtain ⟨j, hj, _⟩ := Option.map_eq_some_iff.1 infoBuilder
  go_enter Try.func22, Try.ntmps22
  go_wp2
  rw [Lib.run_neq_ptr_same w _ Try.underlying25 hj]
  go_wp2
  go_end0
  exact ⟨rfl, rfl⟩

set_option maxHeartbeats 1000000 in
theorem copy_fresh (b : Nat) (w : World) (h0 : w.cell? ⟨b, 0, none⟩ = some (.pointer none)) (hsh : w.shape? b = some (32, 3)) (hfz : w.frozen? ⟨b, 0, none⟩ = false) :
    Calls Try.prog 22 #[.pointer (some ⟨b, 0, none⟩)] w fun e w' => e = .returned (.tuple #[]) ∧ w' = w.setCell ⟨b, 0, none⟩ (.pointer (some ⟨b, 0, none⟩)) := by
  obtain ⟨j, hj, hjs⟩ := Option.map_eq_some_iff.1 infoBuilder
  go_enter Try.func22, Try.ntmps22
  go_wp2
  rw [Lib.run_to_unsafe w ⟨b, 0, none⟩ Try.underlying25 Try.underlying58 hj (by rw [hjs]; decide) hsh (Nat.zero_lt_succ 2)]
  simp only [Result.andThen]
  rw [Oper.upon_value]
  go_wp2
  rw [run_callFunc_extern Try.func24 (by kernel_rfl) (by kernel_rfl) (by kernel_rfl) (e := Extern.AbiNoEscape.same) (by kernel_rfl)]
  rw [Lib.run_noEscape]
  simp only [Result.andThen]
  rw [Oper.upon_value]
  go_wp2
  rw [Lib.run_from_unsafe w ⟨b, 0, none⟩ Try.underlying58 Try.underlying25 hj hsh liesB]
  simp only [Result.andThen]
  rw [Oper.upon_value]
  go_wp2
  go_end0
  exact ⟨rfl, rfl⟩

/-- Behind copyCheck the head holds its own address. -/
def Used (w : World) (b : Nat) (r : Option Nat) (bs : List UInt8) (told : Nat) : Prop :=
  ∃ v, w.heap[b]? = some (.cells #[.pointer (some ⟨b, 0, none⟩), v, .int .i64 told] 32 (0, 0)) ∧ w.ownsRowF 0 5 1 v bs.length (byteCells bs) ∧ v.ownBlock = r ∧ (v = .slice none 0 0 ↔ bs = [])
theorem Used.sp {w : World} {b : Nat} {r : Option Nat} {bs : List UInt8} {told : Nat} (h : Used w b r bs told) : Sp w b r bs told := by
  obtain ⟨v, h1, h2⟩ := h
  exact ⟨_, v, .inr rfl, h1, h2⟩

theorem copy_any (b : Nat) (r : Option Nat) (bs : List UInt8) (told : Nat) (w : World) (h : Sp w b r bs told) :
    Calls Try.prog 22 #[.pointer (some ⟨b, 0, none⟩)] w fun e w' => e = .returned (.tuple #[]) ∧ Used w' b r bs told ∧ Mv b r w r w' := by
  have hsp := h
  obtain ⟨p, v, hp, hb, hown, hr, hn⟩ := h
  rcases hp with rfl | rfl
  · refine (copy_fresh b w (by rw [cell_of_heap hb]; rfl) (by simp [World.shape?, hb]) (frozen_of_heap hb 0)).mono ?_
    rintro e w' ⟨rfl, rfl⟩
    refine ⟨rfl, ⟨v, by simp [World.setCell, Array.getElem?_modify, hb], ?_, hr, hn⟩, (Mv.refl b r w).setCell 0 _⟩
    exact hown.kept (row := some b) ⟨rfl, rfl, rfl, by simp [World.setCell], fun k _ hk => Below.heap_setCell _ _ _ _ (fun e => hk (by simp [e]))⟩ (Or.inr (ownBlock_neF hown hb (by decide)))
  · refine (copy_used b w (by rw [cell_of_heap hb]; rfl)).mono ?_
    rintro e w' ⟨rfl, rfl⟩
    exact ⟨rfl, ⟨v, hb, hown, hr, hn⟩, Mv.refl b r _⟩

theorem grown_mv {b : Nat} {r r' : Option Nat} {w w' : World} (h : w.grownBy w' r) (hr : r' = r ∨ ∃ k, r' = some k ∧ w.heap.size ≤ k) : Mv b r w r' w' :=
  ⟨h.os, h.tape, h.output, h.size, fun g hg _ hne => h.block g hg hne, hr⟩

/-- append, its run known. -/
theorem wp_append_run {P : Program} {ops : Array Oper} {rest : List Oper} {o : Oper} {a : Act} {Q : Exit → Act → World → Prop} {w w' : World} {v v' x : Value} (hgd : o.guard = none) (sl y : Operand) (t u : TypeId)
    (ho : o.op = .call { callee := .builtin .append, args := #[sl, y], argTypes := #[t, u] }) (hs : a.eval sl = v) (hx : a.eval y = x)
    (hr : (Builtin.append_ #[t, u] o.type #[v, x]).run P w = .ok v' w') (h : wpList P ops Q rest (a.put o.dst v') w') : wpList P ops Q (o :: rest) a w := by
  refine wpList_plain hgd fun K hK => ?_
  unfold Oper.wp execOp
  simp only [ho, resolve, invoke, builtin, Sem.run_bind, Sem.run_pure, Result.andThen_ok, List.map_toArray, List.map_cons, List.map_nil, hs, hx, hr]
  exact hK _ _ h

theorem size_list (s : ByteArray) : s.data.toList.length = s.size := by rw [Array.length_toList]; rfl

def WPost (b : Nat) (r : Option Nat) (bs : List UInt8) (told : Nat) (v : Value) (w : World) (e : Ending) (w' : World) : Prop :=
  ∃ r', e = .returned v ∧ Sp w' b r' bs told ∧ Mv b r w r' w'

set_option maxHeartbeats 1000000 in
theorem write_any (b : Nat) (r : Option Nat) (bs : List UInt8) (told : Nat) (s : ByteArray) (w : World) (h : Sp w b r bs told) (hlen : bs.length + s.size ≤ 140737488355328) :
    Calls Try.prog 17 #[.pointer (some ⟨b, 0, none⟩), .string s] w (WPost b r (bs ++ s.data.toList) told (.tuple #[.int .i64 s.size, .nilIface]) w) := by
  obtain ⟨i0, hi, hz0, hz1, hz2⟩ := info_parts infoByte
  go_enter Try.func17, Try.ntmps17
  go_wp2_with fail
  refine (copy_any b r bs told _ h).mono ?_
  rintro e w1 ⟨rfl, ⟨v, hbk, hown, hr, hn⟩, hmv⟩
  have c0 : w1.cell? ⟨b, 0, none⟩ = some (.pointer (some ⟨b, 0, none⟩)) := by rw [Lib.cell_of_heap hbk]; rfl
  have c1 : w1.cell? ⟨b, 1, none⟩ = some v := by rw [Lib.cell_of_heap hbk]; rfl
  obtain ⟨v', w2, hrun, hown', hgrow, hnil, hrow⟩ := append_row (P := Try.prog) w1 26 9 26 i0 Try.underlying26 Try.underlying9 hi hz0 hz1 hz2 v bs.length (byteCells bs) hown s hlen
  have hne : v.ownBlock ≠ some b := ownBlock_neF hown hbk (by decide)
  have hlt : b < w1.heap.size := (Array.getElem?_eq_some_iff.1 hbk).1
  have hb2 : w2.heap[b]? = some (.cells #[.pointer (some ⟨b, 0, none⟩), v, .int .i64 told] 32 (0, 0)) := by
    rw [hgrow.block b hlt (fun e => hne e.symm)]
    exact hbk
  have d0 : w2.cell? ⟨b, 0, none⟩ = some (.pointer (some ⟨b, 0, none⟩)) := by rw [Lib.cell_of_heap hb2]; rfl
  have d1 : w2.cell? ⟨b, 1, none⟩ = some v := by rw [Lib.cell_of_heap hb2]; rfl
  have f1 : w2.frozen? ⟨b, 1, none⟩ = false := Lib.frozen_of_heap hb2 1
  obtain ⟨ao, n', cap, rfl⟩ : ∃ ao n' cap, v' = .slice ao n' cap := by
    rcases hown'.2 with ⟨hv, _⟩ | ⟨g, cap, cur, fz, hv, _⟩
    · exact ⟨_, _, _, hv⟩
    · exact ⟨_, _, _, hv⟩
  have HH := Lib.hid (And.intro hown' (And.intro hgrow (And.intro hnil (And.intro hrow (And.intro hb2 (And.intro hne (And.intro hr hn)))))))
  have HM := Lib.hid hmv
  have HRUN := Lib.hid hrun
  clear hown' hgrow hnil hrow hb2 hne hown hbk hlt hmv hr hn hrun
  go_wp2_with (at_builtin; refine wp_append_run rfl _ _ _ _ rfl rfl rfl HRUN.out ?_; clear HRUN)
  go_ret2
  obtain ⟨hown', hgrow, hnil, hrow, hb2, hne, hr, hn⟩ := HH.out
  have hne2 := ownBlock_neF hown' hb2 (by decide)
  refine ⟨(Value.slice ao n' cap).ownBlock, rfl, ?_, ?_⟩
  · refine ⟨_, .slice ao n' cap, .inr rfl, by simp [World.setCell, Array.getElem?_modify, hb2], ?_, rfl, ?_⟩
    · have e : byteCells (bs ++ s.data.toList) = byteCells bs ++ strCells s := by rw [byteCells_append, strCells_eq]
      rw [e, show (bs ++ s.data.toList).length = bs.length + s.size from by rw [List.length_append, size_list]]
      exact hown'.kept (row := some b) ⟨rfl, rfl, rfl, by simp [World.setCell], fun k _ hk => Below.heap_setCell _ _ _ _ (fun e => hk (by simp [e]))⟩ (Or.inr hne2)
    · rw [hnil, hn]
      constructor
      · rintro ⟨rfl, hz⟩
        have e : s.data.toList.length = 0 := (size_list s).trans hz
        rw [List.eq_nil_of_length_eq_zero e]; rfl
      · intro h
        have h1 := List.append_eq_nil_iff.1 h
        refine ⟨h1.1, ?_⟩
        have e := congrArg List.length h1.2
        rw [size_list] at e; exact e
  · subst hr
    exact (HM.out.trans (grown_mv hgrow hrow)).setCell 1 _
end Go.Proofs.Yteclngkfiaoidaa
