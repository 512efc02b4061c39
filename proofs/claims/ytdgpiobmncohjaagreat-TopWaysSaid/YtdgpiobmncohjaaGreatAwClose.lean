/-
  From the contract of a law ('it returns true') to the row.
-/
import Derived.Test.YtdgpiobmncohjaaGreatAwSimp
import Derived.ProofKit
namespace Go.Proofs.YtdgpiobmncohjaaGreat.Aw
open Go.ChangeShapes Go.WideShapes Go.ChangeAt Go.RowKit

theorem trodAll_below {H : Type} {enc : TypeId × Value → H} {P : Program} (hl : laidOutB P = true) {W W' : World} (hb : Below W.heap.size W W') :
    ∀ (ts : List TypeId) (vs : List Value) (ds : List (DataW H)) (ps : List MemPlace), DataW.TrodAll enc P W 0 (fun _ => true) true ts vs ds ps → (ts.all fun t => P.readableRec t && decide (t < P.types.size)) = true →
      (∀ x ∈ ps, x.block < W.heap.size) → DataW.TrodAll enc P W' 0 (fun b => decide (b < W.heap.size)) true ts vs ds ps
  | [], [], [], _, h, _, _ => h
  | [], [], _ :: _, _, h, _, _ => h.elim
  | [], _ :: _, _, _, h, _, _ => h.elim
  | _ :: _, [], _, _, h, _, _ => h.elim
  | _ :: _, _ :: _, [], _, h, _, _ => h.elim
  | t :: ts, v :: vs, d :: ds, ps, h, ht, hlt => by
    obtain ⟨p, q, h1, h2, rfl⟩ := h
    simp only [List.all_cons, Bool.and_eq_true, decide_eq_true_eq] at ht
    exact ⟨p, q, Below.trod hl ht.1.1 ht.1.2 h1 hb (fun x hx => hlt x (List.mem_append_left _ hx)), trodAll_below hl hb ts vs ds q h2 ht.2 (fun x hx => hlt x (List.mem_append_right _ hx)), rfl⟩

theorem closes {H : Type} {enc : TypeId × Value → H} {P : Program} (hl : laidOutB P = true) {fn : Func} {s : ChangeSpec} {f : Nat} {W : World} {args : Array Value} {ds gs : List (DataW H)} {before : List MemPlace} {t : TypeId} {F : Nat → Prop} {ps : List PV}
    (hW : DataW.Whole enc P fn.params.toList s.vars false W args.toList ds gs before) (hts : (fn.params.toList.all fun t => P.readableRec t && decide (t < P.types.size)) = true) (hvars : s.vars = []) (hres : fn.resultTypes = #[t])
    (ht : P.underlying t = some .bool) (hs : gs = [] → s.fn H (ds ++ gs) = { results := [.lit (.bool true)], args := ds }) (hF : ∀ b, F b → b < W.heap.size) (hR : RL W F (fun _ => none) ps args.toList) (hp : PCall P f ps (.bool true)) (hg : GlobOk W := by trivial) :
    Calls P f args W fun e W' => ∃ v, e = .returned v ∧ s.post enc P fn false true false false W args v W' := by
  have hc := hp.2 W F args.toList hg hF hR
  rw [Array.toArray_toList] at hc
  refine hc.mono fun e W' ⟨v, F', he, hb, _, _, _, hr⟩ => ⟨v, he, ?_⟩
  have hv : v = .bool true := by cases hr; rfl
  subst hv
  have hW' := hW
  obtain ⟨p, q, hA, hV, rfl, _, _⟩ := hW
  rw [hvars] at hV
  obtain ⟨rfl, rfl⟩ := trodVars_none hV
  have hs' := hs rfl
  refine ⟨ds, [], p ++ [], [], p, [], hW', ?_, ?_, ?_, Below.frame hb _, fun h => nomatch h⟩
  · rw [hs', hres]; exact trodAll_mk1 (shut_bool ht true)
  · rw [hs']; exact trodAll_below hl hb _ _ _ _ hA hts (fun x hx => hW'.lt x (by simpa using hx))
  · rw [hs', hvars]; rfl

theorem R1.string {W : World} {F : Nat → Prop} {l : Locs} (s : ByteArray) : R1 W F l (.str s.data.toList) (.string s) := by
  have := R1.str (w := W) (F := F) (l := l) s.data.toList
  rwa [Array.toArray_toList] at this

end Go.Proofs.YtdgpiobmncohjaaGreat.Aw
