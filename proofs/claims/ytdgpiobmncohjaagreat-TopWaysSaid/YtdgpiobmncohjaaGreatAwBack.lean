/-
  From the contract of a call that may change objects to that of one that changes none.
-/
import Derived.Test.YtdgpiobmncohjaaGreatAwDraw2
namespace Go.Proofs.YtdgpiobmncohjaaGreat.Aw
open Go.RowKit

theorem R1.back {w : World} {F : Nat → Prop} {l : Locs} {p : PV} {v : Value} (h : R1 w F l p v) : ∀ {w' : World} {F' : Nat → Prop} {l' : Locs} {v' : Value}, (∀ o L, l o = some L → l' o = some L) → R1 w' F' l' p v' → R1 w' F' l p v' := by
  induction h with
  | bot v => intro w' F' l' v' hx h'; exact .bot _
  | int k n => intro w' F' l' v' hx h'; cases h'; exact .int _ _
  | bool b => intro w' F' l' v' hx h'; cases h'; exact .bool _
  | str s => intro w' F' l' v' hx h'; cases h'; exact .str _
  | agg hl h ih =>
    intro w' F' l' v' hx h'
    cases h' with
    | agg hl' g =>
      exact .agg hl' fun i c x hc hx' => by
        have hi := (List.getElem?_eq_some_iff.1 hc).1
        exact ih i c _ hc (List.getElem?_eq_getElem (by omega)) hx (g i c x hc hx')
  | tup hl h ih =>
    intro w' F' l' v' hx h'
    cases h' with
    | tup hl' g =>
      exact .tup hl' fun i c x hc hx' => by
        have hi := (List.getElem?_eq_some_iff.1 hc).1
        exact ih i c _ hc (List.getElem?_eq_getElem (by omega)) hx (g i c x hc hx')
  | nils => intro w' F' l' v' hx h'; cases h'; exact .nils
  | slc0 a cap => intro w' F' l' v' hx h'; cases h' with
    | slc0 a cap => exact .slc0 _ _
    | slcN h1 h2 h3 h4 h5 h6 h7 => exact absurd rfl h1
  | slcN _ _ _ _ _ _ _ _ => intro w' F' l' v' hx h'; cases h' with
    | slc0 a cap => exact .slc0 _ _
    | slcN h1 h2 h3 h4 h5 h6 h7 => exact .slcN h1 h2 h3 h4 h5 h6 h7
  | osl ho hb hn hv h =>
    intro w' F' l' v' hx h'
    cases h' with
    | osl ho' hb' hn' hv' g => rw [hx _ _ ho] at ho'; cases ho'; exact .osl ho hb' hn' hv' g
  | ref ho hb =>
    intro w' F' l' v' hx h'
    cases h' with
    | ref ho' hb' => rw [hx _ _ ho] at ho'; cases ho'; exact .ref ho hb'
  | lref ho hb hn hv h =>
    intro w' F' l' v' hx h'
    cases h' with
    | lref ho' hb' hn' hv' g => rw [hx _ _ ho] at ho'; cases ho'; exact .lref ho hb' hn' hv' g
  | bsl ho hb hn =>
    intro w' F' l' v' hx h'
    cases h' with
    | bsl ho' hb' hn' => rw [hx _ _ ho] at ho'; cases ho'; exact .bsl ho hb' hn'
  | asl ho hb hn ha =>
    intro w' F' l' v' hx h'
    cases h' with
    | asl ho' hb' hn' ha' => rw [hx _ _ ho] at ho'; cases ho'; exact .asl ho hb' hn' ha'
  | fptr _ _ _ _ _ => intro w' F' l' v' hx h'; cases h' with
    | fptr a b c d => exact .fptr a b c d
  | nilp => intro w' F' l' v' hx h'; cases h'; exact .nilp
  | fn hp g1 hq g2 ih1 ih2 =>
    intro w' F' l' v' hx h'
    cases h' with
    | fn a b c d =>
      exact .fn a (fun i p x h1 h2 => by
        have hi := (List.getElem?_eq_some_iff.1 h1).1
        exact ih1 i p _ h1 (List.getElem?_eq_getElem (by omega)) hx (b i p x h1 h2)) c fun i p x h1 h2 => by
        have hi := (List.getElem?_eq_some_iff.1 h1).1
        exact ih2 i p _ h1 (List.getElem?_eq_getElem (by omega)) hx (d i p x h1 h2)
  | nilf => intro w' F' l' v' hx h'; cases h'; exact .nilf
  | ifc _ ih => intro w' F' l' v' hx h'; cases h' with
    | ifc g => exact .ifc (ih hx g)
  | nili => intro w' F' l' v' hx h'; cases h'; exact .nili
  | mp ho hb =>
    intro w' F' l' v' hx h'
    cases h' with
    | mp ho' hb' => rw [hx _ _ ho] at ho'; cases ho'; exact .mp ho hb'
  | nilm => intro w' F' l' v' hx h'; cases h'; exact .nilm

theorem RL.back {w w' : World} {F F' : Nat → Prop} {l l' : Locs} {ps : List PV} {vs vs' : List Value} (hx : ∀ o L, l o = some L → l' o = some L) (h : RL w F l ps vs) (h' : RL w' F' l' ps vs') : RL w' F' l ps vs' :=
  ⟨h'.1, fun i c x hc hx' => by
    have hi := (List.getElem?_eq_some_iff.1 hc).1
    have := h.1
    exact (h.2 i c _ hc (List.getElem?_eq_getElem (by omega))).back hx (h'.2 i c x hc hx')⟩

/-- What was added behind is let go. -/
theorem RepW.back {c : Ctx} {F F' : Nat → Prop} {l l' : Locs} {ob ex : List AObj} {w w' : World} (R : RepW c F l ob w) (R' : RepW c F' l' (ob ++ ex) w') (m : Mono w F l w' F' l') : RepW c F' l ob w' ∧ Mono w F l w' F' l := by
  have hsame : ∀ o L, l o = some L → l' o = some L := by
    intro o L ho
    obtain ⟨L', h1, h2⟩ := m.loc o L ho
    rcases h2 with rfl | ⟨b1, b2, b3⟩
    · exact h1
    · exfalso
      have hlt := R.lt o L ho
      have hoa := List.getElem?_eq_getElem hlt
      rcases R.objs o _ hoa with ⟨_, g⟩ | ⟨M, g1, g2⟩
      · rw [ho] at g; cases g
      rw [ho] at g1; cases g1
      rcases R'.objs o (ob[o]) (by rw [List.getElem?_append_left hlt]; exact hoa) with ⟨_, g⟩ | ⟨M, g3, g4⟩
      · rw [h1] at g; cases g
      rw [h1] at g3; cases g3
      generalize ob[o] = a at g2 g4
      cases a with
      | none => exact g2
      | junk =>
        rcases (g2 : L.box = true ∨ (L.nil = true ∧ L.len = goneLen)) with g2 | ⟨_, g2⟩
        · rw [g2] at b1; cases b1
        · rcases (g4 : L'.box = true ∨ (L'.nil = true ∧ L'.len = goneLen)) with g4 | ⟨_, g4⟩
          · rw [g4] at b2; cases b2
          · omega
      | box cells => rw [g2.1] at b1; cases b1
      | tbox t cells => rw [g2.1] at b1; cases b1
      | map ck es => rw [g2.1] at b1; cases b1
      | iter _ _ _ _ => rw [g2.1] at b1; cases b1
      | list esz rows => have h1 := g2.2.1; have h2 := g4.2.1; omega
      | buf u bs => have h1 := g2.2.1; have h2 := g4.2.1; omega
  refine ⟨⟨R'.below, R'.f0, R'.fn, R'.flt, R.lt, ?_, ?_, ?_⟩, m.frz, m.heap, LocExt.refl l⟩
  · intro o a ho
    have hlt := (List.getElem?_eq_some_iff.1 ho).1
    rcases R.objs o a ho with h | ⟨L, g1, g2⟩
    · exact .inl h
    · refine .inr ⟨L, g1, ?_⟩
      rcases R'.objs o a (by rw [List.getElem?_append_left hlt]; exact ho) with ⟨_, g⟩ | ⟨M, g3, g4⟩
      · rw [hsame o L g1] at g; cases g
      rw [hsame o L g1] at g3; cases g3
      cases a with
      | none => exact g4
      | junk => exact g4
      | box cells =>
        obtain ⟨h1, h2, cv, e, h3, h4, h5⟩ := g4
        obtain ⟨_, _, cv0, _, _, k4, _⟩ := g2
        exact ⟨h1, h2, cv, e, h3, k4.back hsame h4, h5⟩
      | tbox t cells =>
        obtain ⟨h1, h2, cv, h3, h4, h5⟩ := g4
        obtain ⟨_, _, cv0, _, k4, _⟩ := g2
        exact ⟨h1, h2, cv, h3, k4.back hsame h4, h5⟩
      | buf u bs => exact g4
      | list esz rows => exact g4
      | map ck es =>
        obtain ⟨h1, h2, ms, h3, h4⟩ := g4
        obtain ⟨_, _, ms0, _, k4⟩ := g2
        refine ⟨h1, h2, ms, h3, h4.1, fun i e m hi hm => ?_⟩
        have hil := (List.getElem?_eq_some_iff.1 hi).1
        have hl0 := k4.1
        have e1 := h4.2 i e m hi hm
        have e0 := k4.2 i e _ hi (List.getElem?_eq_getElem (by omega))
        exact ⟨e1.1, e1.2.1, e0.2.2.back hsame e1.2.2⟩
      | iter q a b d =>
        obtain ⟨h1, h2, Lm, h3, h4, h5⟩ := g4
        obtain ⟨_, _, Lm0, k3, k4, k5⟩ := g2
        have := hsame _ _ k3
        rw [h3] at this; cases this
        exact ⟨h1, h2, Lm, k3, h4, h5⟩
  · intro o L ho hn
    exact R'.own o L (hsame o L ho) hn
  · intro o o' L1 L2 h1 h2 hn hn' hb
    exact R'.inj o o' L1 L2 (hsame o L1 h1) (hsame o' L2 h2) hn hn' hb

theorem RCall.of {P : Program} {f : Nat} {ps : List PV} {ob : List AObj} {r : PV} {K : PV → List AObj → Prop} (h : ICall P f ps ob K) (hK : ∀ r' ob', K r' ob' → r' = r ∧ ∃ ex, ob' = ob ++ ex) (hf : r.flat = true) : RCall P f ps ob r := by
  refine ⟨h.1.1, fun c w F l vs R hv => (h.2 c w F l vs R hv).mono ?_⟩
  rintro e w' ⟨v, r', ob', F', l', h1, R', m', hr, hk⟩
  obtain ⟨rfl, ex, rfl⟩ := hK _ _ hk
  obtain ⟨R2, m2⟩ := R.back R' m'
  exact ⟨v, F', h1, R2, m2, hr.ofFlat hf _ _ _⟩

theorem callR {P : Program} {f : Nat} {ps : List PV} {ob : List AObj} {r : PV} {k : PV → Prop} (h : RCall P f ps ob r) (hk : k r) : ∃ r, RCall P f ps ob r ∧ k r := ⟨r, h, hk⟩

/-- A call's end, taken up. -/
theorem callM {P : Program} {f : Nat} {ps : List PV} {ob : List AObj} {K K' : PV → List AObj → Prop} (h : ICall P f ps ob K) (hk : ∀ r ob', K r ob' → K' r ob') : ICall P f ps ob K' := ICall_mono hk h

theorem AOps_rcall {P bs K d fn args nw fb tg os f ob} : AOps P bs (⟨d, .rcall fn args, none, nw, fb, tg⟩ :: os) K ⟨f, ob⟩ = ∃ r, RCall P fn (args.map (St.val ⟨f, ob⟩)) ob r ∧ kA P bs os K f d r ob := nr (by cases d <;> rfl)
def kD (P : Program) (n : Nat) (a b : List AOp) (Q : Ex → St → Prop) (s : St) : Prop := AOps P n a (Q .n) s ∧ AOps P n b (Q .n) s
theorem kD_eq {P n a b Q f ob} : kD P n a b Q ⟨f, ob⟩ = (AOps P n a (Q .n) ⟨f, ob⟩ ∧ AOps P n b (Q .n) ⟨f, ob⟩) := nr rfl
theorem AWP_dreg2 {P bb m pre a b Q f ob} : AWP P bb (.dreg2 m pre a b) Q ⟨f, ob⟩ = AOps P ob.length pre (kD P ob.length a b Q) ⟨f, ob ++ List.replicate m .none⟩ := nr rfl
theorem AWP_dregs {P bb m t Q f ob} : AWP P bb (.dregs m t) Q ⟨f, ob⟩ = ATO P ob.length t (Q .n) ⟨f, ob ++ List.replicate m .none⟩ := nr rfl
def kT (P : Program) (n : Nat) (a b : DTO) (K : St → Prop) (s : St) : Prop := ATO P n a K s ∧ ATO P n b K s
theorem kT_eq {P n a b K f ob} : kT P n a b K ⟨f, ob⟩ = (ATO P n a K ⟨f, ob⟩ ∧ ATO P n b K ⟨f, ob⟩) := nr rfl
theorem ATO_leaf {P n l K f ob} : ATO P n (.leaf l) K ⟨f, ob⟩ = AOps P n l K ⟨f, ob⟩ := nr rfl
theorem ATO_node {P n l a b K f ob} : ATO P n (.node l a b) K ⟨f, ob⟩ = AOps P n l (kT P n a b K) ⟨f, ob⟩ := nr rfl
end Go.Proofs.YtdgpiobmncohjaaGreat.Aw
