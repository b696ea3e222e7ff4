/- The last step of a law's row: the call answered, nothing that was there has turned ('Below'): then the row's 'post' holds. -/
import Derived.Below
import Derived.ChangeSame
namespace Go.Proofs.Ytglkognlhejdiaa
open Go.RowKit Go.WideShapes Go.ChangeShapes
variable {H : Type} {enc : TypeId × Value → H} {P : Program}

theorem post_below {f : Func} {s : ChangeSpec} {apart fresh handsOn again : Bool} {W W' : World} {args : Array Value} {v : Value} {ds gs : List (DataW H)} {before pa pv : List MemPlace}
    (hW : DataW.Whole enc P f.params.toList s.vars apart W args.toList ds gs before)
    (hres : ∀ (b : Nat) (sp : Nat → Bool) (hd : Bool), DataW.TrodAll enc P W' b sp hd f.resultTypes.toList (v.resultList f.resultTypes.size) (s.fn H (ds ++ gs)).results [])
    (hargs : ∀ sp : Nat → Bool, (∀ p ∈ before, sp p.block = true) → DataW.TrodAll enc P W' 0 sp true f.params.toList args.toList (s.fn H (ds ++ gs)).args pa)
    (hvars : ∀ sp : Nat → Bool, (∀ p ∈ before, sp p.block = true) → DataW.TrodVars enc P W' sp s.vars (s.fn H (ds ++ gs)).vars pv)
    (hps : before = pa ++ pv) (hb : Below W.heap.size W W')
    (hok : ∀ (j : Nat) (t : TypeId) (r : Value), f.resultTypes[j]? = some t → (v.resultList f.resultTypes.size)[j]? = some r → Value.okWide P W' .any 0 t r) :
    s.post enc P f apart fresh handsOn again W args v W' := by
  have old : ∀ p ∈ before, p.block < W.heap.size := fun p hp => hW.lt p hp
  have hA := hargs (fun _ => true) (fun _ _ => rfl)
  have hV := hvars (fun _ => true) (fun _ _ => rfl)
  refine ⟨ds, gs, before, [], pa, pv, hW, hres _ _ _, hargs _ (fun p hp => by simpa using old p hp), hvars _ (fun p hp => by simpa using old p hp), World.keptBut_mono (fun p hp => ⟨hp, .inr (by simpa [hps] using hp)⟩) (hb.frame (· ∈ before)), fun _ => ?_⟩
  obtain ⟨_, _, _, _, _, hz, hn⟩ := hW
  subst hps
  refine ⟨hok, _, _, pa ++ pv, ⟨pa, pv, by simpa using trodAll_append hA (hres _ _ _), hV, rfl, fun b off hp => ?_, fun ha => by simpa using hn ha⟩, fun p hp _ => hp⟩
  rw [hb.frozen (old _ hp)]
  exact hz b off hp
end Go.Proofs.Ytglkognlhejdiaa
