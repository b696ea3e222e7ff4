/- The walk of channel.New (keys of no bytes); no condition. -/
import Derived.Test.YtgehdkbjcpdjoaaDoorJa
import Derived.Test.YtgehdkbjcpdjoaaDoorBd
namespace Go.Proofs.YtgehdkbjcpdjoaaDoor
open Go.RowKit
set_option linter.unusedVariables false
set_option linter.unusedSimpArgs false

structure Stp where
  ch : Int
  cap : Int
  ours : Int
  seed : List Value
  key : ByteArray
  peer : ByteArray
def Stp.cells (s : Stp) : List Value := [.int .u32 s.ch, .int .u64 s.cap, .int .u64 s.ours] ++ s.seed ++ [.string s.key, .string s.peer]
def Stp.val (s : Stp) : Value := .agg s.cells.toArray
theorem Stp.len {s : Stp} (h : s.seed.length = 32) : s.cells.length = 37 := by simp [Stp.cells, h]
def chanTail : List Value := [.slice none 0 0, .int .u64 0, .int .u64 0] ++ (List.replicate 17 ([.bool false, .int .i64 0] ++ List.replicate 32 (.int .u8 0))).flatten ++ [.bool false, .bool false, .slice none 0 0, .slice none 0 0, .bool false]
def newChan (s : Stp) (a b : Int) : List Value := s.cells ++ ([.int .i64 0, .int .i64 0, .bool false] ++ ([.int .u64 a, .int .u64 b] ++ chanTail))
def zStp : Stp := ⟨0, 0, 0, List.replicate 32 (.int .u8 0), ⟨#[]⟩, ⟨#[]⟩⟩
theorem zero104 (u : World) : (zeroValue 104).run Tryd.prog u = .ok (.agg (newChan zStp 0 0).toArray) u := by kernel_rfl
theorem places104 (w : World) : ∃ fs places, Tryd.prog.underlying 104 = some (.struct fs) ∧ (fs.mapM fun (f : Field) => do pure (f.offset, ← sizeOf f.type)).run Tryd.prog w = .ok places w ∧ places[0]? = some (0, 37) ∧ places[2]? = some (40, 2) :=
  ⟨_, #[(0, 37), (37, 3), (40, 2), (42, 1), (43, 2), (45, 578), (623, 1), (624, 1), (625, 1), (626, 1), (627, 1)], Tryd.underlying104, by kernel_rfl, rfl, rfl⟩
theorem splice_head (A B L : List Value) (h : L.length = A.length) : splice (A ++ B) 0 L = L ++ B := by
  simp [splice, h]
theorem splice_mid (A B C L : List Value) (off : Nat) (ha : A.length = off) (h : L.length = B.length) : splice (A ++ (B ++ C)) off L = A ++ (L ++ C) := by
  subst ha
  simp [splice, h]
theorem build_chan (s : Stp) (a b : Int) (hs : s.seed.length = 32) (w : World) :
    (Instr.build 104 #[(0, .agg s.cells.toArray), (2, .agg #[.int .u64 a, .int .u64 b])]).run Tryd.prog w = .ok (.agg (newChan s a b).toArray) w := by
  obtain ⟨fs, places, hu, hp, p0, p2⟩ := places104 w
  refine run_build hu w (zero104 w) hp _ _ ?_
  have hz : zStp.cells.length = 37 := by decide
  have ht : chanTail.length = 586 := by kernel_rfl
  show Instr.fill _ _ [(0, .agg s.cells.toArray), (2, .agg #[.int .u64 a, .int .u64 b])] = _
  rw [fill_one _ _ 0 0 37 s.cells _ p0 (Stp.len hs) (by simp [newChan, hz, ht]) _ rfl]
  rw [show splice (newChan zStp 0 0) 0 s.cells = s.cells ++ ([.int .i64 0, .int .i64 0, .bool false] ++ ([.int .u64 0, .int .u64 0] ++ chanTail)) from splice_head _ _ _ (by rw [Stp.len hs, hz])]
  rw [fill_one _ _ 2 40 2 [.int .u64 a, .int .u64 b] _ p2 rfl (by simp [Stp.len hs, ht]) _ rfl]
  rw [show s.cells ++ ([.int .i64 0, .int .i64 0, .bool false] ++ ([.int .u64 0, .int .u64 0] ++ chanTail)) = (s.cells ++ [.int .i64 0, .int .i64 0, .bool false]) ++ ([.int .u64 0, .int .u64 0] ++ chanTail) from by simp]
  rw [splice_mid (s.cells ++ ([.int .i64 0, .int .i64 0, .bool false] : List Value)) [.int .u64 0, .int .u64 0] chanTail [.int .u64 a, .int .u64 b] 40 (by simp [Stp.len hs]) rfl]
  simp [Instr.fill, newChan]

theorem wpList_build2 {P : Program} {ops : Array Oper} {rest : List Oper} {o : Oper} {a : Act} {Q : Exit → Act → World → Prop} {w : World} {v : Value} (hgd : o.guard = none) (t : TypeId) (i0 i1 : Nat) (x0 x1 : Operand) (v0 v1 : Value)
    (ho : o.op = .build t #[(i0, x0), (i1, x1)]) (h0 : a.eval x0 = v0) (h1 : a.eval x1 = v1) (hr : (Instr.build t #[(i0, v0), (i1, v1)]).run P w = .ok v w) (h : wpList P ops Q rest (a.put o.dst v) w) : wpList P ops Q (o :: rest) a w := by
  refine wpList_plain hgd fun K hK => ?_
  subst h0 h1
  unfold Oper.wp execOp
  simp only [ho, List.map_toArray, List.map_cons, List.map_nil, Sem.run_bind, hr, Result.andThen_ok, Sem.run_pure]
  exact hK _ _ h

theorem info33 : (Tryd.prog.info? 33).map (·.size) = some 37 := by kernel_rfl
structure Stp.ok (s : Stp) : Prop where
  c0 : 0 ≤ s.ch
  c1 : s.ch < 4294967296
  p0 : 0 ≤ s.cap
  p1 : s.cap < 18446744073709551616
  o0 : 0 ≤ s.ours
  o1 : s.ours < 18446744073709551616
  l : s.seed.length = 32
  one : ∀ v ∈ s.seed, v.oneCell' = true
  k : s.key = ⟨#[]⟩
  q : s.peer = ⟨#[]⟩
/-- May a channel be? -/
def may (s : Stp) : Prop := 1 ≤ s.cap ∧ s.cap ≤ 1125899906842624 ∧ s.ours ≤ s.cap
instance (s : Stp) : Decidable (may s) := by unfold may; infer_instance

/-- What channel.New leaves. -/
def Made (s : Stp) (w : World) (e : Ending) (w' : World) : Prop :=
  Below w.heap.size w w' ∧ ((may s ∧ ∃ c, e = .returned (.pointer (some ⟨c, 0, none⟩)) ∧ w.heap.size ≤ c ∧ Blk w' c 104 (newChan s s.ours (s.cap - s.ours)).toArray) ∨ (¬ may s ∧ e = .returned (.pointer none)))

set_option maxRecDepth 100000 in
set_option maxHeartbeats 4000000 in
theorem chan_new (s : Stp) (hs : s.ok) (w : World) : Calls Tryd.prog 27 #[s.val] w (Made s w) := by
  have hx := Blk.new w _ 33 s.cells.toArray rfl
  have hB := (Below.refl w.heap.size w).alloc (Nat.le_refl _) (.cells s.cells.toArray 33)
  have HS := Lib.hid hs
  have HI : Hid ((Tryd.prog.info? 33).map (·.size) = some s.cells.toArray.size) := Lib.hid (by rw [info33]; simp [Stp.len hs.l])
  obtain ⟨p0, p1, q0, q1⟩ : 0 ≤ s.cap ∧ s.cap < 18446744073709551616 ∧ 0 ≤ s.ours ∧ s.ours < 18446744073709551616 := ⟨hs.p0, hs.p1, hs.o0, hs.o1⟩
  have x1 := hx.cell 1
  have x2 := hx.cell 2
  have x35 := hx.cell 35
  have x36 := hx.cell 36
  rw [show s.cells.toArray[1]? = some (Value.int .u64 s.cap) from rfl] at x1
  rw [show s.cells.toArray[2]? = some (Value.int .u64 s.ours) from rfl] at x2
  have e35 : s.cells.toArray[35]? = some (Value.string ⟨#[]⟩) := by simp [Stp.cells, hs.l, hs.k]
  have e36 : s.cells.toArray[36]? = some (Value.string ⟨#[]⟩) := by simp [Stp.cells, hs.l, hs.q]
  rw [e35] at x35
  rw [e36] at x36
  have hl := hx.lt
  have HX := Lib.hid hx
  have HB := Lib.hid hB
  unfold Stp.val
  clear hs hx hB e35 e36
  have hb1 := fun W => build_chan s s.ours (s.cap - s.ours) HS.out.l W
  have HBC := Lib.hid hb1
  clear hb1
  by_cases h1 : s.cap < 1
  · go_enter Tryd.func27, Tryd.ntmps27
    go_wp2_with fail
    go_ret
    exact ⟨HB.out, .inr ⟨fun h => by have := h.1; omega, rfl⟩⟩
  · by_cases h2 : s.cap > 1125899906842624
    · go_enter Tryd.func27, Tryd.ntmps27
      go_wp2_with fail
      go_ret
      exact ⟨HB.out, .inr ⟨fun h => by have := h.2.1; omega, rfl⟩⟩
    · by_cases h3 : s.ours > s.cap
      · go_enter Tryd.func27, Tryd.ntmps27
        go_wp2_with fail
        go_ret
        exact ⟨HB.out, .inr ⟨fun h => by have := h.2.2; omega, rfl⟩⟩
      · have h4 : 0 ≤ s.cap - s.ours := by omega
        have h5 : s.cap - s.ours < 18446744073709551616 := by omega
        go_enter Tryd.func27, Tryd.ntmps27
        go_wp2_with (first | (refine wpList_load_row (by rfl) 33 (.tmp 1) (by rfl) w.heap.size (by rfl) 33 s.cells.toArray (0, 0) _ HX.out Tryd.underlying33 rfl HI.out ?_) | (refine wpList_build2 rfl 104 0 2 (.tmp 28) (.tmp 36) (.agg s.cells.toArray) (.agg #[.int .u64 s.ours, .int .u64 (s.cap - s.ours)]) rfl rfl rfl (HBC.out _) ?_))
        go_ret
        have hs := HB.out.size
        have hbl := Blk.new (w.alloc (.cells s.cells.toArray 33)) (w.heap.size + 1) 104 (newChan s s.ours (s.cap - s.ours)).toArray (by simp)
        have hm : may s := ⟨by omega, by omega, by omega⟩
        exact ⟨HB.out.alloc hs _, .inl ⟨hm, w.heap.size + 1, rfl, Nat.le_succ _, hbl⟩⟩
end Go.Proofs.YtgehdkbjcpdjoaaDoor
