/-
 From the contract of a call that may change objects to that of one that changes none.; How a walk is simplified: more rules: memory of the call's own, calls of values, calls that change objects.
-/
import Derived.Test.YtdgpiobmncohjaaGreatDoorKam
set_option linter.all false
namespace Go.Proofs.YtdgpiobmncohjaaGreatDoor.Aw
open Go.RowKit
theorem R1.back {w : World} {F : Nat → Prop} {l : Locs} {p : PV} {v : Value} (h : R1 w F l p v) : ∀ {w' : World} {F' : Nat → Prop} {l' : Locs} {v' : Value}, (∀ o L, l o = some L → l' o = some L) → R1 w' F' l' p v' → R1 w' F' l p v' := by
 induction h with
 | bot v => intro w' F' l' v' hx h'; exact .bot _
 | int k n => intro w' F' l' v' hx h'; cases h'; exact .int _ _
 | bool b => intro w' F' l' v' hx h'; cases h'; exact .bool _
 | str s => intro w' F' l' v' hx h'; cases h'; exact .str _
 | agg hl h ih =>
  intro w' F' l' v' hx h'
  cases h' with
  | agg hl' g =>
   exact .agg hl' fun i c x hc hx' => by
    have hi := (List.getElem?_eq_some_iff.1 hc).1
    exact ih i c _ hc (List.getElem?_eq_getElem (by omega)) hx (g i c x hc hx')
 | tup hl h ih =>
  intro w' F' l' v' hx h'
  cases h' with
  | tup hl' g =>
   exact .tup hl' fun i c x hc hx' => by
    have hi := (List.getElem?_eq_some_iff.1 hc).1
    exact ih i c _ hc (List.getElem?_eq_getElem (by omega)) hx (g i c x hc hx')
 | nils => intro w' F' l' v' hx h'; cases h'; exact .nils
 | slc0 a cap => intro w' F' l' v' hx h'; cases h' with
  | slc0 a cap => exact .slc0 _ _
  | slcN h1 h2 h3 h4 h5 h6 h7 => exact absurd rfl h1
 | slcN _ _ _ _ _ _ _ _ => intro w' F' l' v' hx h'; cases h' with
  | slc0 a cap => exact .slc0 _ _
  | slcN h1 h2 h3 h4 h5 h6 h7 => exact .slcN h1 h2 h3 h4 h5 h6 h7
 | osl ho hb hn hv h =>
  intro w' F' l' v' hx h'
  cases h' with
  | osl ho' hb' hn' hv' g => rw [hx _ _ ho] at ho'; cases ho'; exact .osl ho hb' hn' hv' g
 | ref ho hb =>
  intro w' F' l' v' hx h'
  cases h' with
  | ref ho' hb' => rw [hx _ _ ho] at ho'; cases ho'; exact .ref ho hb'
 | lref ho hb hn hv h =>
  intro w' F' l' v' hx h'
  cases h' with
  | lref ho' hb' hn' hv' g => rw [hx _ _ ho] at ho'; cases ho'; exact .lref ho hb' hn' hv' g
 | bsl ho hb hn =>
  intro w' F' l' v' hx h'
  cases h' with
  | bsl ho' hb' hn' => rw [hx _ _ ho] at ho'; cases ho'; exact .bsl ho hb' hn'
 | asl ho hb hn ha =>
  intro w' F' l' v' hx h'
  cases h' with
  | asl ho' hb' hn' ha' => rw [hx _ _ ho] at ho'; cases ho'; exact .asl ho hb' hn' ha'
 | fptr _ _ _ _ _ => intro w' F' l' v' hx h'; cases h' with
  | fptr a b c d => exact .fptr a b c d
 | nilp => intro w' F' l' v' hx h'; cases h'; exact .nilp
 | fn hp g1 hq g2 ih1 ih2 =>
  intro w' F' l' v' hx h'
  cases h' with
  | fn a b c d =>
   exact .fn a (fun i p x h1 h2 => by
    have hi := (List.getElem?_eq_some_iff.1 h1).1
    exact ih1 i p _ h1 (List.getElem?_eq_getElem (by omega)) hx (b i p x h1 h2)) c fun i p x h1 h2 => by
    have hi := (List.getElem?_eq_some_iff.1 h1).1
    exact ih2 i p _ h1 (List.getElem?_eq_getElem (by omega)) hx (d i p x h1 h2)
 | nilf => intro w' F' l' v' hx h'; cases h'; exact .nilf
 | ifc _ ih => intro w' F' l' v' hx h'; cases h' with
  | ifc g => exact .ifc (ih hx g)
 | nili => intro w' F' l' v' hx h'; cases h'; exact .nili
 | mp ho hb =>
  intro w' F' l' v' hx h'
  cases h' with
  | mp ho' hb' => rw [hx _ _ ho] at ho'; cases ho'; exact .mp ho hb'
 | nilm => intro w' F' l' v' hx h'; cases h'; exact .nilm
theorem RL.back {w w' : World} {F F' : Nat → Prop} {l l' : Locs} {ps : List PV} {vs vs' : List Value} (hx : ∀ o L, l o = some L → l' o = some L) (h : RL w F l ps vs) (h' : RL w' F' l' ps vs') : RL w' F' l ps vs' :=
 ⟨h'.1, fun i c x hc hx' => by
  have hi := (List.getElem?_eq_some_iff.1 hc).1
  have := h.1
  exact (h.2 i c _ hc (List.getElem?_eq_getElem (by omega))).back hx (h'.2 i c x hc hx')⟩
theorem RepW.back {c : Ctx} {F F' : Nat → Prop} {l l' : Locs} {ob ex : List AObj} {w w' : World} (R : RepW c F l ob w) (R' : RepW c F' l' (ob ++ ex) w') (m : Mono w F l w' F' l') : RepW c F' l ob w' ∧ Mono w F l w' F' l := by
 have hsame : ∀ o L, l o = some L → l' o = some L := by
  intro o L ho
  obtain ⟨L', h1, h2⟩ := m.loc o L ho
  rcases h2 with rfl | ⟨b1, b2, b3⟩
  ·exact h1
  ·exfalso
   have hlt := R.lt o L ho
   have hoa := List.getElem?_eq_getElem hlt
   rcases R.objs o _ hoa with ⟨_, g⟩ | ⟨M, g1, g2⟩
   ·rw [ho] at g; cases g
   rw [ho] at g1; cases g1
   rcases R'.objs o (ob[o]) (by rw [List.getElem?_append_left hlt]; exact hoa) with ⟨_, g⟩ | ⟨M, g3, g4⟩
   ·rw [h1] at g; cases g
   rw [h1] at g3; cases g3
   generalize ob[o] = a at g2 g4
   cases a with
   | none => exact g2
   | junk =>
    rcases (g2 : L.box = true ∨ (L.nil = true ∧ L.len = goneLen)) with g2 | ⟨_, g2⟩
    ·rw [g2] at b1; cases b1
    ·rcases (g4 : L'.box = true ∨ (L'.nil = true ∧ L'.len = goneLen)) with g4 | ⟨_, g4⟩
     ·rw [g4] at b2; cases b2
     ·omega
   | box cells => rw [g2.1] at b1; cases b1
   | tbox t cells => rw [g2.1] at b1; cases b1
   | map ck es => rw [g2.1] at b1; cases b1
   | iter _ _ _ _ => rw [g2.1] at b1; cases b1
   | list esz rows => have h1 := g2.2.1; have h2 := g4.2.1; omega
   | buf u bs => have h1 := g2.2.1; have h2 := g4.2.1; omega
 refine ⟨⟨R'.below, R'.f0, R'.fn, R'.flt, R.lt, ?_, ?_, ?_⟩, m.frz, m.heap, LocExt.refl l⟩
 ·intro o a ho
  have hlt := (List.getElem?_eq_some_iff.1 ho).1
  rcases R.objs o a ho with h | ⟨L, g1, g2⟩
  ·exact .inl h
  ·refine .inr ⟨L, g1, ?_⟩
   rcases R'.objs o a (by rw [List.getElem?_append_left hlt]; exact ho) with ⟨_, g⟩ | ⟨M, g3, g4⟩
   ·rw [hsame o L g1] at g; cases g
   rw [hsame o L g1] at g3; cases g3
   cases a with
   | none => exact g4
   | junk => exact g4
   | box cells =>
    obtain ⟨h1, h2, cv, e, h3, h4, h5⟩ := g4
    obtain ⟨_, _, cv0, _, _, k4, _⟩ := g2
    exact ⟨h1, h2, cv, e, h3, k4.back hsame h4, h5⟩
   | tbox t cells =>
    obtain ⟨h1, h2, cv, h3, h4, h5⟩ := g4
    obtain ⟨_, _, cv0, _, k4, _⟩ := g2
    exact ⟨h1, h2, cv, h3, k4.back hsame h4, h5⟩
   | buf u bs => exact g4
   | list esz rows => exact g4
   | map ck es =>
    obtain ⟨h1, h2, ms, h3, h4⟩ := g4
    obtain ⟨_, _, ms0, _, k4⟩ := g2
    refine ⟨h1, h2, ms, h3, h4.1, fun i e m hi hm => ?_⟩
    have hil := (List.getElem?_eq_some_iff.1 hi).1
    have hl0 := k4.1
    have e1 := h4.2 i e m hi hm
    have e0 := k4.2 i e _ hi (List.getElem?_eq_getElem (by omega))
    exact ⟨e1.1, e1.2.1, e0.2.2.back hsame e1.2.2⟩
   | iter q a b d =>
    obtain ⟨h1, h2, Lm, h3, h4, h5⟩ := g4
    obtain ⟨_, _, Lm0, k3, k4, k5⟩ := g2
    have := hsame _ _ k3
    rw [h3] at this; cases this
    exact ⟨h1, h2, Lm, k3, h4, h5⟩
 ·intro o L ho hn
  exact R'.own o L (hsame o L ho) hn
 ·intro o o' L1 L2 h1 h2 hn hn' hb
  exact R'.inj o o' L1 L2 (hsame o L1 h1) (hsame o' L2 h2) hn hn' hb
theorem RCall.of {P : Program} {f : Nat} {ps : List PV} {ob : List AObj} {r : PV} {K : PV → List AObj → Prop} (h : ICall P f ps ob K) (hK : ∀ r' ob', K r' ob' → r' = r ∧ ∃ ex, ob' = ob ++ ex) (hf : r.flat = true) : RCall P f ps ob r := by
 refine ⟨h.1.1, fun c w F l vs R hv => (h.2 c w F l vs R hv).mono ?_⟩
 rintro e w' ⟨v, r', ob', F', l', h1, R', m', hr, hk⟩
 obtain ⟨rfl, ex, rfl⟩ := hK _ _ hk
 obtain ⟨R2, m2⟩ := R.back R' m'
 exact ⟨v, F', h1, R2, m2, hr.ofFlat hf _ _ _⟩
theorem callR {P : Program} {f : Nat} {ps : List PV} {ob : List AObj} {r : PV} {k : PV → Prop} (h : RCall P f ps ob r) (hk : k r) : ∃ r, RCall P f ps ob r ∧ k r := ⟨r, h, hk⟩
theorem callM {P : Program} {f : Nat} {ps : List PV} {ob : List AObj} {K K' : PV → List AObj → Prop} (h : ICall P f ps ob K) (hk : ∀ r ob', K r ob' → K' r ob') : ICall P f ps ob K' := ICall_mono hk h
theorem AOps_rcall {P bs K d fn args nw fb tg os f ob} : AOps P bs (⟨d, .rcall fn args, none, nw, fb, tg⟩ :: os) K ⟨f, ob⟩ = ∃ r, RCall P fn (args.map (St.val ⟨f, ob⟩)) ob r ∧ kA P bs os K f d r ob := nr (by cases d <;> rfl)
def kD (P : Program) (n : Nat) (a b : List AOp) (Q : Ex → St → Prop) (s : St) : Prop := AOps P n a (Q .n) s ∧ AOps P n b (Q .n) s
theorem kD_eq {P n a b Q f ob} : kD P n a b Q ⟨f, ob⟩ = (AOps P n a (Q .n) ⟨f, ob⟩ ∧ AOps P n b (Q .n) ⟨f, ob⟩) := nr rfl
theorem AWP_dreg2 {P bb m pre a b Q f ob} : AWP P bb (.dreg2 m pre a b) Q ⟨f, ob⟩ = AOps P ob.length pre (kD P ob.length a b Q) ⟨f, ob ++ List.replicate m .none⟩ := nr rfl
theorem AWP_dregs {P bb m t Q f ob} : AWP P bb (.dregs m t) Q ⟨f, ob⟩ = ATO P ob.length t (Q .n) ⟨f, ob ++ List.replicate m .none⟩ := nr rfl
def kT (P : Program) (n : Nat) (a b : DTO) (K : St → Prop) (s : St) : Prop := ATO P n a K s ∧ ATO P n b K s
theorem kT_eq {P n a b K f ob} : kT P n a b K ⟨f, ob⟩ = (ATO P n a K ⟨f, ob⟩ ∧ ATO P n b K ⟨f, ob⟩) := nr rfl
theorem ATO_leaf {P n l K f ob} : ATO P n (.leaf l) K ⟨f, ob⟩ = AOps P n l K ⟨f, ob⟩ := nr rfl
theorem ATO_node {P n l a b K f ob} : ATO P n (.node l a b) K ⟨f, ob⟩ = AOps P n l (kT P n a b K) ⟨f, ob⟩ := nr rfl
open Go.RowKit
theorem pcall_go {P : Program} {f : Nat} {fn : Func} {own : List Nat} {hints : List (List Nat × Nat)} {ac : AC} {rs : List ARV} {args : List PV} {r : PV}
  (hf : P.funcs[f]? = some fn) (hc : compF P own (drawR P own fn.ntmps) hints args.length fn = some (ac, rs)) (h : AWP P 0 ac (AFin rs r) (init args)) : PCall P f args r := pcall_dr hf hc h
theorem AEnd_n {rs K s} : AEnd rs K .n s = ∃ r, rawOf s rs = some r ∧ K r s.ob := nr rfl
theorem AEnd_r {rs K s} : AEnd rs K .r s = ∃ r, rawOf s rs = some r ∧ K r s.ob := nr rfl
theorem AEnd_x {rs K s i} : AEnd rs K (.x i) s = False := nr rfl
theorem rawOf_0 {s} : rawOf s [] = some (.tup []) := nr rfl
theorem AWP_fail {P bb Q s} : AWP P bb .fail Q s = False := nr rfl
theorem AWP_ct {P bb c a b Q f ob} (h : St.val ⟨f, ob⟩ c = .bool true) : AWP P bb (.cond c a b) Q ⟨f, ob⟩ = AWP P bb a Q ⟨f, ob⟩ := by
 rw [AWP_cond, h, kB]; simp
theorem AWP_cf {P bb c a b Q f ob} (h : St.val ⟨f, ob⟩ c = .bool false) : AWP P bb (.cond c a b) Q ⟨f, ob⟩ = AWP P bb b Q ⟨f, ob⟩ := by
 rw [AWP_cond, h, kB]; simp
def kS (o : Option (List PV)) (k : List PV → Prop) : Prop :=
 match o with
 | some qs => k qs
 | none => False
theorem kS_some {qs k} : kS (some qs) k = k qs := nr rfl
theorem kS_map {p o} {k : List PV → Prop} : kS (Option.map (p :: ·) o) k = kS o fun qs => k (p :: qs) := by cases o <;> rfl
theorem ACall_own {P own forb nw f ps d K} {g : Nat → PV} {ob} (h : ownL ps = true) : ACall P own forb nw f ps d K ⟨g, ob⟩ = kS (snapL ob forb ps) fun qs => ∃ r, PCall P f qs r ∧ r.flatR = true ∧ ARes own nw d K r ⟨g, ob⟩ := by
 simp only [ACall, h, Bool.true_eq_false, if_false, kS]
 cases snapL ob forb ps <;> rfl
theorem callS {P : Program} {f : Nat} {qs : List PV} {own nw d K s} {r : PV} (h : PCall P f qs r) (hf : r.flatR = true) (hk : ARes own nw d K r s) : ∃ r, PCall P f qs r ∧ r.flatR = true ∧ ARes own nw d K r s := ⟨r, h, hf, hk⟩
theorem AOps_icall {P bs K d fn args nw fb os f ob} : AOps P bs (⟨d, .icall fn args, none, nw, fb, none⟩ :: os) K ⟨f, ob⟩ = ICall P fn (args.map (St.val ⟨f, ob⟩)) ob (kA P bs os K f d) := nr (by cases d <;> rfl)
def kF (v : PV) (k : Nat → List PV → List PV → Prop) : Prop :=
 match v with
 | .fn (.func f) a b => k f a b
 | _ => False
theorem kF_fn {f a b k} : kF (.fn (.func f) a b) k = k f a b := nr rfl
theorem AOps_callv {P bs K d x args nw fb os f ob} : AOps P bs (⟨d, .callv x args, none, nw, fb, none⟩ :: os) K ⟨f, ob⟩ = kF (St.val ⟨f, ob⟩ x) fun g first cap => ACall P false (fb.map (rsv bs ⟨f, ob⟩)) (nw.map (bs + ·)) g (first ++ (args.map (St.val ⟨f, ob⟩) ++ cap)) d (AOps P bs os K) ⟨f, ob⟩ := by
 simp only [AOps, AStep, AExec, kF]
 generalize St.val ⟨f, ob⟩ x = v
 cases v with
 | fn g a b => cases g <;> rfl
 | _ => rfl
theorem AOps_icallv {P bs K d x args nw fb os f ob} : AOps P bs (⟨d, .icallv x args, none, nw, fb, none⟩ :: os) K ⟨f, ob⟩ = kF (St.val ⟨f, ob⟩ x) fun g first cap => ICall P g (first ++ (args.map (St.val ⟨f, ob⟩) ++ cap)) ob (kA P bs os K f d) := by
 simp only [AOps, AStep, AExec, kF]
 generalize St.val ⟨f, ob⟩ x = v
 cases v with
 | fn g a b => cases g <;> cases d <;> rfl
 | _ => rfl
theorem ownL_bot {r} : ownL (.bot :: r) = ownL r := by simp [ownL, PV.own?]
theorem ownL_nilp {r} : ownL (.nilp :: r) = ownL r := by simp [ownL, PV.own?]
theorem ownL_nilf {r} : ownL (.nilf :: r) = ownL r := by simp [ownL, PV.own?]
theorem ownL_nili {r} : ownL (.nili :: r) = ownL r := by simp [ownL, PV.own?]
theorem ownL_tup {cs r} : ownL (.tup cs :: r) = (ownL cs || ownL r) := by simp [ownL, PV.own?]
theorem ownL_fn {f a b r} : ownL (.fn f a b :: r) = ((ownL a || ownL b) || ownL r) := by simp [ownL, PV.own?]
theorem ownL_fptr {cs r} : ownL (.fptr cs :: r) = ownL r := by simp [ownL, PV.own?]
theorem ownL_ifc {t v r} : ownL (.ifc t v :: r) = (ownL [v] || ownL r) := by simp [ownL, PV.own?]
theorem ownL_lref {o i j n r} : ownL (.lref o i j n :: r) = true := by simp [ownL, PV.own?]
theorem ownL_bsl {o i n r} : ownL (.bsl o i n :: r) = true := by simp [ownL, PV.own?]
theorem snapL_bot {ob fb r} : snapL ob fb (.bot :: r) = (snapL ob fb r).map (.bot :: ·) := by simp only [snapL, snap]; cases snapL ob fb r <;> rfl
theorem snapL_nilp {ob fb r} : snapL ob fb (.nilp :: r) = (snapL ob fb r).map (.nilp :: ·) := by simp only [snapL, snap]; cases snapL ob fb r <;> rfl
theorem snapL_nilf {ob fb r} : snapL ob fb (.nilf :: r) = (snapL ob fb r).map (.nilf :: ·) := by simp only [snapL, snap]; cases snapL ob fb r <;> rfl
theorem snapL_nili {ob fb r} : snapL ob fb (.nili :: r) = (snapL ob fb r).map (.nili :: ·) := by simp only [snapL, snap]; cases snapL ob fb r <;> rfl
theorem snapL_fptr {ob fb c r} : snapL ob fb (.fptr c :: r) = (snapL ob fb r).map (.fptr c :: ·) := by simp only [snapL, snap]; cases snapL ob fb r <;> rfl
def consS (o : Option PV) (r : Option (List PV)) : Option (List PV) :=
 match o, r with
 | some p, some r => some (p :: r)
 | _, _ => none
theorem consS_some {p r} : consS (some p) (some r) = some (p :: r) := nr rfl
theorem snapL_cons {ob fb p r} : snapL ob fb (p :: r) = consS (snap ob fb p) (snapL ob fb r) := by
 simp only [snapL, consS]
 cases snap ob fb p <;> cases snapL ob fb r <;> rfl
theorem snapL_agg {ob fb cs r} : snapL ob fb (.agg cs :: r) = consS ((snapL ob fb cs).map .agg) (snapL ob fb r) := by
 rw [snapL_cons, snap]
theorem snapL_tup {ob fb cs r} : snapL ob fb (.tup cs :: r) = consS ((snapL ob fb cs).map .tup) (snapL ob fb r) := by
 rw [snapL_cons, snap]
theorem snapL_osl {ob fb o i n r} : snapL ob fb (.osl o i n :: r) = consS ((rowsOf ob fb (.osl o i n)).map .slc) (snapL ob fb r) := by
 rw [snapL_cons, snap]
def fnS (f : Fn) (a b : Option (List PV)) : Option PV :=
 match a, b with
 | some a, some b => some (.fn f a b)
 | _, _ => none
theorem fnS_some {f a b} : fnS f (some a) (some b) = some (.fn f a b) := nr rfl
theorem snapL_fn {ob fb f a b r} : snapL ob fb (.fn f a b :: r) = consS (fnS f (snapL ob fb a) (snapL ob fb b)) (snapL ob fb r) := by
 rw [snapL_cons]
 simp only [snap]
 cases snapL ob fb a <;> cases snapL ob fb b <;> rfl
def refS (a : Option AObj) (off : Nat) : Option PV :=
 match a with
 | some (.box cs) => if off ≤ cs.length ∧ ownL cs = false then some (.fptr (cs.drop off)) else none
 | _ => none
theorem refS_box {cs off} (h : off ≤ cs.length) (h2 : ownL cs = false) : refS (some (.box cs)) off = some (.fptr (cs.drop off)) := by simp only [refS, h, h2, and_self, if_true]
theorem snapL_ref {ob fb o off r} (h : fb.contains o = false) : snapL ob fb (.ref o off :: r) = consS (refS ob[o]? off) (snapL ob fb r) := by
 rw [snapL_cons, snap]
 simp only [h, Bool.false_eq_true, if_false, refS]
 cases ob[o]? with
 | none => rfl
 | some a => cases a <;> rfl
theorem flatR_int {k n} : PV.flatR (.int k n) = true := by simp [PV.flatR, PV.flat]
theorem flatR_bool {b} : PV.flatR (.bool b) = true := by simp [PV.flatR, PV.flat]
theorem flatR_str {b} : PV.flatR (.str b) = true := by simp [PV.flatR, PV.flat]
theorem flatR_nils : PV.flatR .nils = true := by simp [PV.flatR, PV.flat]
theorem flatR_agg {cs} : PV.flatR (.agg cs) = flatL cs := by simp [PV.flatR, PV.flat]
theorem flatR_tup {cs} : PV.flatR (.tup cs) = flatL cs := by simp [PV.flatR, PV.flat]
theorem flatR_own {e rows} : PV.flatR (.own e rows) = rows.all flatL := by simp [PV.flatR]
theorem flatL_nil : flatL [] = true := by simp [flatL]
theorem flatL_int {k n r} : flatL (.int k n :: r) = flatL r := by simp [flatL, PV.flat]
theorem flatL_bool {b r} : flatL (.bool b :: r) = flatL r := by simp [flatL, PV.flat]
theorem flatL_str {b r} : flatL (.str b :: r) = flatL r := by simp [flatL, PV.flat]
theorem flatL_nils {r} : flatL (.nils :: r) = flatL r := by simp [flatL, PV.flat]
theorem flatL_agg {cs r} : flatL (.agg cs :: r) = (flatL cs && flatL r) := by simp [flatL, PV.flat]
theorem cont_nil {o : Nat} : List.contains [] o = false := nr rfl
theorem cont_cons {a o : Nat} {l : List Nat} : List.contains (a :: l) o = ((o == a) || List.contains l o) := by rw [List.contains_cons]
theorem wObj_store {f ob n a x} : wObj ⟨f, ob⟩ (.store n a x) = objOf (St.val ⟨f, ob⟩ a) := nr rfl
theorem wObj_app {f ob e b z x y} : wObj ⟨f, ob⟩ (.app e b z x y) = objOf (St.val ⟨f, ob⟩ x) := nr rfl
theorem wObj_apps {f ob e x y} : wObj ⟨f, ob⟩ (.apps e x y) = objOf (St.val ⟨f, ob⟩ x) := nr rfl
theorem objOf_ref {o i} : objOf (.ref o i) = some o := nr rfl
theorem objOf_lref {o i j n} : objOf (.lref o i j n) = some o := nr rfl
theorem objOf_osl {o i n} : objOf (.osl o i n) = some o := nr rfl
theorem rsv_place {bs s} {k : Nat} (h : k < 1000000) : rsv bs s k = bs + k := rsv_lt h
theorem rsv_slot {bs f ob} {k : Nat} (h : (k < 1000000) = False) : rsv bs ⟨f, ob⟩ k = (objOf (f (k - 1000000))).getD 1000000000 := by simp only [rsv, h, if_false]
theorem some_getD {o d : Nat} : (some o).getD d = o := nr rfl
theorem rowsOf_oslF {ob fb o i n} (h : fb.contains o = false) : rowsOf ob fb (.osl o i n) = rowsO ob[o]? i n := by
 simp only [rowsOf, h, Bool.false_eq_true, if_false, rowsO]
 cases ob[o]? with
 | none => rfl
 | some a => cases a <;> rfl
theorem rowsO_buf {u bs n} (h : n = bs.length) : rowsO (some (.buf u bs)) 0 n = some (byteRows bs) := by simp [rowsO, h]
theorem ldC_refF {ob fb o off n} (h : fb.contains o = false) : ldC ob fb (.ref o off) n = ldB ob[o]? off n := by
 simp only [ldC, h, Bool.false_eq_true, if_false, ldB]
 cases ob[o]? with
 | none => rfl
 | some a => cases a <;> rfl
theorem ldC_lrefF {ob fb o i off len n} (h : fb.contains o = false) : ldC ob fb (.lref o i off len) n = ldL ob[o]? i off len n := by
 simp only [ldC, h, Bool.false_eq_true, if_false, ldL]
 cases ob[o]? with
 | none => rfl
 | some a => cases a <;> rfl
theorem ldB_boxI {cs off n} (h : (decide (off + n ≤ cs.length)) = true) : ldB (some (.box cs)) off n = some ((cs.drop off).take n) := by simp only [decide_eq_true_eq] at h; simp [ldB, h]
theorem ldB_tboxI {t cs off n} (h : (decide (off + n ≤ cs.length)) = true) : ldB (some (.tbox t cs)) off n = some ((cs.drop off).take n) := by simp only [decide_eq_true_eq] at h; simp [ldB, h]
theorem ldC_fptrI {ob fb cs n} (h : decide (n ≤ cs.length) = true) : ldC ob fb (.fptr cs) n = some (cs.take n) := by simp only [decide_eq_true_eq] at h; simp [ldC, h]
theorem islV_oslF {ob fb e o j m i} (h : fb.contains o = false) : islV ob fb e (.osl o j m) i = islO ob[o]? e o j m i := by simp only [islV, h, Bool.false_eq_true, if_false]
def newAt (ob : List AObj) (p : Nat) (a : AObj) (k : PV) : Option (PV × List AObj) :=
 match ob[p]? with
 | some .none => some (k, ob.set p a)
 | _ => none
theorem newAt_ok {ob p a k} (h : ob[p]? = some .none) : newAt ob p a k = some (k, ob.set p a) := by simp only [newAt, h]
theorem newO_eq {ob a k} : newO ob a k = some (k ob.length, ob ++ [a]) := nr rfl
theorem mk_some {f ob p} {a : AObj} {k : Nat → PV} : (mkO ⟨f, ob⟩ (some p) a).map (fun (o, ob) => (k o, ob)) = newAt ob p a (k p) := by
 simp only [mkO, newAt]
 cases ob[p]? with
 | none => rfl
 | some a => cases a <;> rfl
theorem ev_allocO {fb f ob z} : ev fb none ⟨f, ob⟩ (.alloc z) = newO ob (.box z) fun o => .ref o 0 := nr rfl
theorem ev_allocA {fb f ob z p} : ev fb (some p) ⟨f, ob⟩ (.alloc z) = newAt ob p (.box z) (.ref p 0) := by simp only [ev]; exact mk_some (k := fun o => .ref o 0)
def boxO (x : PV) (k : Option (PV × List AObj)) : Option (PV × List AObj) := if (x.known && x.cellsOf.all PV.cell?) = true then k else none
theorem boxO_ok {x k} (h : (x.known && x.cellsOf.all PV.cell?) = true) : boxO x k = k := by simp only [boxO, h, if_true]
theorem ev_boxO {fb f ob x} : ev fb none ⟨f, ob⟩ (.box x) = boxO (St.val ⟨f, ob⟩ x) (newO ob (.box (St.val ⟨f, ob⟩ x).cellsOf) fun o => .ref o 0) := by
 simp only [ev, boxO, Bool.and_eq_true]; rfl
theorem ev_boxA {fb f ob x p} : ev fb (some p) ⟨f, ob⟩ (.box x) = boxO (St.val ⟨f, ob⟩ x) (newAt ob p (.box (St.val ⟨f, ob⟩ x).cellsOf) (.ref p 0)) := by
 simp only [ev, boxO, Bool.and_eq_true]
 split
 ·exact mk_some (k := fun o => .ref o 0)
 ·rfl
theorem ev_balloc {fb f ob t u} : ev fb none ⟨f, ob⟩ (.balloc t u) = some (.ref (ob.length + 1) 0, ob ++ [.buf u []] ++ [.tbox t [.nilp, .osl ob.length 0 0]]) := nr rfl
theorem known_int {k n} : PV.known (.int k n) = true := nr rfl
theorem known_bool {b} : PV.known (.bool b) = true := nr rfl
theorem known_str {b} : PV.known (.str b) = true := nr rfl
theorem known_agg {b} : PV.known (.agg b) = true := nr rfl
theorem known_slc {b} : PV.known (.slc b) = true := nr rfl
theorem known_nils : PV.known .nils = true := nr rfl
theorem known_osl {o i n} : PV.known (.osl o i n) = true := nr rfl
theorem known_ref {o i} : PV.known (.ref o i) = true := nr rfl
theorem known_nilp : PV.known .nilp = true := nr rfl
theorem known_fn {f a b} : PV.known (.fn f a b) = true := nr rfl
theorem cellsOf_int {k n} : PV.cellsOf (.int k n) = [.int k n] := nr rfl
theorem cellsOf_bool {b} : PV.cellsOf (.bool b) = [.bool b] := nr rfl
theorem cellsOf_str {b} : PV.cellsOf (.str b) = [.str b] := nr rfl
theorem cellsOf_agg {b} : PV.cellsOf (.agg b) = b := nr rfl
theorem cellsOf_slc {b} : PV.cellsOf (.slc b) = [.slc b] := nr rfl
theorem cellsOf_nils : PV.cellsOf .nils = [.nils] := nr rfl
theorem cellsOf_osl {o i n} : PV.cellsOf (.osl o i n) = [.osl o i n] := nr rfl
theorem cellsOf_ref {o i} : PV.cellsOf (.ref o i) = [.ref o i] := nr rfl
theorem cellsOf_nilp : PV.cellsOf .nilp = [.nilp] := nr rfl
theorem cellsOf_fn {f a b} : PV.cellsOf (.fn f a b) = [.fn f a b] := nr rfl
theorem cell_int {k n} : PV.cell? (.int k n) = true := nr rfl
theorem cell_bool {b} : PV.cell? (.bool b) = true := nr rfl
theorem cell_str {b} : PV.cell? (.str b) = true := nr rfl
theorem cell_slc {b} : PV.cell? (.slc b) = true := nr rfl
theorem cell_nils : PV.cell? .nils = true := nr rfl
theorem cell_osl {o i n} : PV.cell? (.osl o i n) = true := nr rfl
theorem cell_ref {o i} : PV.cell? (.ref o i) = true := nr rfl
theorem cell_nilp : PV.cell? .nilp = true := nr rfl
theorem cell_fn {f a b} : PV.cell? (.fn f a b) = true := nr rfl
theorem cell_ifc {t v} : PV.cell? (.ifc t v) = true := nr rfl
theorem cell_nili : PV.cell? .nili = true := nr rfl
theorem scal_agg {b} : PV.scal (.agg b) = false := nr rfl
theorem scal_ref {o i} : PV.scal (.ref o i) = true := nr rfl
theorem scal_nilp : PV.scal .nilp = true := nr rfl
def stB (ob : List AObj) (o : Nat) (a : Option AObj) (off : Nat) (vs : List PV) : Option (PV × List AObj) :=
 match a with
 | some (.box cs) => if off + vs.length ≤ cs.length then some (.bot, ob.set o (.box (setAt cs off vs))) else none
 | some (.tbox t cs) => if off + vs.length ≤ cs.length then some (.bot, ob.set o (.tbox t (setAt cs off vs))) else none
 | _ => none
theorem stB_box {ob o cs off vs} (h : decide (off + vs.length ≤ cs.length) = true) : stB ob o (some (.box cs)) off vs = some (.bot, ob.set o (.box (setAt cs off vs))) := by simp only [decide_eq_true_eq] at h; simp [stB, h]
theorem stB_tbox {ob o t cs off vs} (h : decide (off + vs.length ≤ cs.length) = true) : stB ob o (some (.tbox t cs)) off vs = some (.bot, ob.set o (.tbox t (setAt cs off vs))) := by simp only [decide_eq_true_eq] at h; simp [stB, h]
def stL (ob : List AObj) (o : Nat) (a : Option AObj) (i off len : Nat) (vs : List PV) : Option (PV × List AObj) :=
 match a with
 | some (.list esz rows) =>
  if rows.length = len then
   match rows[i]? with
   | some r => if off + vs.length ≤ r.length then some (.bot, ob.set o (.list esz (rows.set i (setAt r off vs)))) else none
   | none => none
  else none
 | _ => none
theorem stL_at {ob o esz rows i off len vs} (hl : rows.length = len) (hi : i < rows.length) (h : off + vs.length ≤ rows[i].length) : stL ob o (some (.list esz rows)) i off len vs = some (.bot, ob.set o (.list esz (rows.set i (setAt rows[i] off vs)))) := by
 simp only [stL, hl, if_true, List.getElem?_eq_getElem hi, h]
theorem stO_ref {ob fb n o off x} (h : fb.contains o = false) (h2 : (decide (x.cellsOf.length = n) && x.cellsOf.all PV.cell?) = true) : stO n ob fb (.ref o off) x = stB ob o ob[o]? off x.cellsOf := by
 simp only [Bool.and_eq_true, decide_eq_true_eq] at h2
 simp only [stO, h2.1, h2.2, and_self, if_true, stC, h, Bool.false_eq_true, if_false, stB]
 cases ob[o]? with
 | none => rfl
 | some a =>
  cases a <;> try rfl
  ·simp only []; split <;> rfl
  ·simp only []; split <;> rfl
theorem stO_lref {ob fb n o i off len x} (h : fb.contains o = false) (h0 : ownL x.cellsOf = false) (h2 : (decide (x.cellsOf.length = n) && x.cellsOf.all PV.cell?) = true) : stO n ob fb (.lref o i off len) x = stL ob o ob[o]? i off len x.cellsOf := by
 simp only [Bool.and_eq_true, decide_eq_true_eq] at h2
 simp only [stO, h2.1, h2.2, and_self, if_true, stC, h, h0, Bool.or_self, Bool.false_eq_true, if_false, stL]
 cases ob[o]? with
 | none => rfl
 | some a =>
  cases a <;> try rfl
  simp only []
  split
  ·rename_i esz rows _
   cases rows[i]? with
   | none => rfl
   | some r => simp only []; split <;> rfl
  ·rfl
theorem setAt_zero {cs vs} : setAt cs 0 vs = vs ++ cs.drop vs.length := by simp [setAt]
theorem setAt_succ {c cs n vs} : setAt (c :: cs) (n + 1) vs = c :: setAt cs n vs := by
 simp only [setAt, List.take_succ_cons, List.cons_append]
 congr 3
 rw [show n + 1 + vs.length = (n + vs.length) + 1 by omega, List.drop_succ_cons]
def faddrV (off : Nat) : PV → Option PV
 | .ref o i => some (.ref o (i + off))
 | .lref o i j n => some (.lref o i (j + off) n)
 | .fptr cs => if off ≤ cs.length then some (.fptr (cs.drop off)) else none
 | _ => none
theorem faddrV_ref {off o i} : faddrV off (.ref o i) = some (.ref o (i + off)) := nr rfl
theorem faddrV_lref {off o i j n} : faddrV off (.lref o i j n) = some (.lref o i (j + off) n) := nr rfl
theorem faddrV_fptr {off cs} (h : decide (off ≤ cs.length) = true) : faddrV off (.fptr cs) = some (.fptr (cs.drop off)) := by simp only [decide_eq_true_eq] at h; simp [faddrV, h]
theorem ev_faddr {fb nw f ob off x} : ev fb nw ⟨f, ob⟩ (.faddr off x) = tag ob (faddrV off (St.val ⟨f, ob⟩ x)) := by
 simp only [ev]
 cases St.val ⟨f, ob⟩ x <;> try rfl
 simp only [faddrV]; split <;> rfl
def nilckV : PV → Option PV
 | .ref o i => some (.ref o i)
 | .lref o i j n => some (.lref o i j n)
 | .fptr cs => some (.fptr cs)
 | _ => none
theorem nilckV_ref {o i} : nilckV (.ref o i) = some (.ref o i) := nr rfl
theorem nilckV_lref {o i j n} : nilckV (.lref o i j n) = some (.lref o i j n) := nr rfl
theorem nilckV_fptr {cs} : nilckV (.fptr cs) = some (.fptr cs) := nr rfl
theorem ev_nilck {fb nw f ob x} : ev fb nw ⟨f, ob⟩ (.nilck x) = tag ob (nilckV (St.val ⟨f, ob⟩ x)) := by
 simp only [ev]; cases St.val ⟨f, ob⟩ x <;> rfl
def fldV (n : Option Nat) (off : Nat) : PV → Option PV
 | .agg cs => partPV n off cs
 | _ => none
theorem fldV_agg {n off cs} : fldV n off (.agg cs) = partPV n off cs := nr rfl
theorem ev_fld {fb nw f ob n off x} : ev fb nw ⟨f, ob⟩ (.fld n off x) = tag ob (fldV n off (St.val ⟨f, ob⟩ x)) := by
 simp only [ev]; cases St.val ⟨f, ob⟩ x <;> rfl
theorem partPV_none {off cs} : partPV none off cs = cs[off]? := nr rfl
theorem partPV_some {n off cs} (h : decide (off + n ≤ cs.length) = true) : partPV (some n) off cs = some (.agg ((cs.drop off).take n)) := by simp only [decide_eq_true_eq] at h; simp [partPV, h]
def idxaV (n : Option Nat) (esz len : Nat) (x i : PV) : Option PV :=
 match x, i with
 | .agg cs, .int _ j => if 0 ≤ j ∧ j < len then partPV n (j.toNat * esz) cs else none
 | _, _ => none
theorem ev_idxa {fb nw f ob n e l x i} : ev fb nw ⟨f, ob⟩ (.idxa n e l x i) = tag ob (idxaV n e l (St.val ⟨f, ob⟩ x) (St.val ⟨f, ob⟩ i)) := by
 simp only [ev, idxaV]
 generalize St.val ⟨f, ob⟩ x = X
 generalize St.val ⟨f, ob⟩ i = Y
 cases X <;> try rfl
 cases Y <;> try rfl
 simp only []; split <;> rfl
def iarrV (esz len : Nat) (x i : PV) : Option PV :=
 match x, i with
 | .ref o j, .int _ n => if 0 ≤ n ∧ n < len then some (.ref o (j + n.toNat * esz)) else none
 | .fptr cs, .int _ n => if 0 ≤ n ∧ n < len ∧ n.toNat * esz ≤ cs.length then some (.fptr (cs.drop (n.toNat * esz))) else none
 | _, _ => none
theorem ev_iarr {fb nw f ob e l x i} : ev fb nw ⟨f, ob⟩ (.iarr e l x i) = tag ob (iarrV e l (St.val ⟨f, ob⟩ x) (St.val ⟨f, ob⟩ i)) := by
 simp only [ev, iarrV]
 generalize St.val ⟨f, ob⟩ x = X
 generalize St.val ⟨f, ob⟩ i = Y
 cases X <;> try rfl
 ·cases Y <;> try rfl
  simp only []; split <;> rfl
 ·cases Y <;> try rfl
  simp only []; split <;> rfl
theorem iarrV_ref {e} {l : Nat} {o j k n} (h1 : 0 ≤ n) (h2 : n < (l : Int)) : iarrV e l (.ref o j) (.int k n) = some (.ref o (j + n.toNat * e)) := by simp [iarrV, h1, h2]
def setP (z : List PV) (off sz : Nat) (v : PV) : Option (List PV) :=
 if (v.known && (decide (v.cellsOf.length = sz) && decide (off + sz ≤ z.length))) = true then some (setAt z off v.cellsOf) else none
theorem setP_ok {z off sz v} (h : (v.known && (decide (v.cellsOf.length = sz) && decide (off + sz ≤ z.length))) = true) : setP z off sz v = some (setAt z off v.cellsOf) := by simp only [setP, h, if_true]
def bindP (o : Option (List PV)) (k : List PV → Option (List PV)) : Option (List PV) := o.bind k
theorem bindP_some {z k} : bindP (some z) k = k z := nr rfl
theorem fillA_nil {s z} : fillA s z [] = some z := by simp [fillA]
theorem fillA_cons {s z off sz x r} : fillA s z ((off, sz, x) :: r) = bindP (setP z off sz (s.val x)) fun z => fillA s z r := by
 simp only [fillA, bindP, setP, Bool.and_eq_true, decide_eq_true_eq]; split <;> rfl
theorem ev_build {fb nw f ob z ps} : ev fb nw ⟨f, ob⟩ (.build z ps) = tag ob ((fillA ⟨f, ob⟩ z ps).map .agg) := by
 simp only [ev, tag]; cases fillA ⟨f, ob⟩ z ps <;> rfl
def blO (rows : Option (List (List PV))) (k : List (List PV) → Option (PV × List AObj)) : Option (PV × List AObj) :=
 rows.bind fun rows => if rows.all (fun r => r.all PV.scal && !ownL r) = true then k rows else none
theorem blO_ok {rows k} (h : rows.all (fun r => r.all PV.scal && !ownL r) = true) : blO (some rows) k = k rows := by simp only [blO, Option.bind_some, h, if_true]
theorem ev_bldsO {fb f ob z n ps} : ev fb none ⟨f, ob⟩ (.blds true z n ps) = blO (fillR ⟨f, ob⟩ z.length (List.replicate n z) ps) fun rows => newO ob (.list z.length rows) fun o => .osl o 0 rows.length := by
 simp only [ev, blO, if_true]; rfl
theorem ev_bldsA {fb f ob z n ps p} : ev fb (some p) ⟨f, ob⟩ (.blds true z n ps) = blO (fillR ⟨f, ob⟩ z.length (List.replicate n z) ps) fun rows => newAt ob p (.list z.length rows) (.osl p 0 rows.length) := by
 simp only [ev, blO, if_true]
 cases fillR ⟨f, ob⟩ z.length (List.replicate n z) ps with
 | none => rfl
 | some rows =>
  simp only [Option.bind_some]
  split
  ·exact mk_some (k := fun o => .osl o 0 rows.length)
  ·rfl
theorem ev_nilownA {fb f ob e p} : ev fb (some p) ⟨f, ob⟩ (.nilown e) = newAt ob p (.list e []) (.osl p 0 0) := by simp only [ev]; exact mk_some (k := fun o => .osl o 0 0)
theorem setR_any {n z i v} (h : (v.known && (decide (v.cellsOf.length = n) && decide (i < z.length))) = true) : setR n z i v = some (z.set i v.cellsOf) := by
 simp only [Bool.and_eq_true, decide_eq_true_eq] at h
 simp only [setR, h, and_self, if_true]
def mksO (z : List PV) (x y : PV) (k : Nat → Option (PV × List AObj)) : Option (PV × List AObj) :=
 match x, y with
 | .int _ n, .int _ c => if 0 ≤ n ∧ n = c ∧ n ≤ 16777216 ∧ z.all (fun p => p.scal) ∧ ownL z = false then k n.toNat else none
 | _, _ => none
theorem mksO_int {z k1 k2 n k} (h1 : 0 ≤ n) (h2 : n ≤ 16777216) (hz : z.all (fun p => p.scal) = true) (hz2 : ownL z = false) : mksO z (.int k1 n) (.int k2 n) k = k n.toNat := by simp only [mksO, h1, h2, hz, hz2, and_self, if_true]
theorem ev_mks {fb nw f ob z b x y} : ev fb nw ⟨f, ob⟩ (.mks false z b x y) = mksO z (St.val ⟨f, ob⟩ x) (St.val ⟨f, ob⟩ y) fun n => some (.slc (List.replicate n z), ob) := by
 simp only [ev, mksO]
 cases St.val ⟨f, ob⟩ x <;> cases St.val ⟨f, ob⟩ y <;> rfl
theorem ev_mksO {fb f ob z b x y} (hz : z.any PV.isNils = false) : ev fb none ⟨f, ob⟩ (.mks true z b x y) = mksO z (St.val ⟨f, ob⟩ x) (St.val ⟨f, ob⟩ y) fun n => newO ob (.list z.length (List.replicate n z)) fun o => .osl o 0 n := by
 simp only [ev, mksO, hz]
 cases St.val ⟨f, ob⟩ x <;> cases St.val ⟨f, ob⟩ y <;> rfl
theorem isNils_y : PV.isNils .nils = true := nr rfl
theorem isNils_i {k n} : PV.isNils (.int k n) = false := nr rfl
theorem isNils_b {b} : PV.isNils (.bool b) = false := nr rfl
theorem isNils_s {b} : PV.isNils (.str b) = false := nr rfl
theorem isNils_c {b} : PV.isNils (.slc b) = false := nr rfl
theorem isNils_p : PV.isNils .nilp = false := nr rfl
theorem ev_mksB {fb f ob z b x y} (hz : z.any PV.isNils = true) : ev fb none ⟨f, ob⟩ (.mks true z b x y) = mksO z (St.val ⟨f, ob⟩ x) (St.val ⟨f, ob⟩ y) fun n => newO ob (.box (List.replicate n z).flatten) fun o => .bsl o 0 n := by
 simp only [ev, mksO, hz]
 cases St.val ⟨f, ob⟩ x <;> cases St.val ⟨f, ob⟩ y <;> rfl
theorem ev_mksBA {fb f ob z b x y p} (hz : z.any PV.isNils = true) : ev fb (some p) ⟨f, ob⟩ (.mks true z b x y) = mksO z (St.val ⟨f, ob⟩ x) (St.val ⟨f, ob⟩ y) fun n => newAt ob p (.box (List.replicate n z).flatten) (.bsl p 0 n) := by
 simp only [ev, mksO, hz, if_true]
 cases St.val ⟨f, ob⟩ x with
 | int k n =>
  cases St.val ⟨f, ob⟩ y with
  | int k' m =>
   simp only []
   split
   ·exact mk_some (k := fun o => .bsl o 0 n.toNat)
   ·rfl
  | _ => rfl
 | _ => rfl
theorem ev_s2bA {fb f ob x p} : ev fb (some p) ⟨f, ob⟩ (.s2b true x) = (match St.val ⟨f, ob⟩ x with | .str l => newAt ob p (.list 1 (byteRows l)) (.osl p 0 l.length) | _ => none) := by
 simp only [ev]
 cases St.val ⟨f, ob⟩ x <;> try rfl
 rename_i l
 exact mk_some (k := fun o => .osl o 0 l.length)
def appO (ob : List AObj) (fb : List Nat) (nw : Option Nat) (esz : Nat) (x : PV) (new : Option (List (List PV))) : Option (PV × List AObj) :=
 new.bind fun new =>
  if (rowsOk esz new && decide (new.length ≤ 16777216)) = true then
   match x with
   | .nils => (mkO ⟨fun _ => .bot, ob⟩ nw (.list esz new)).map fun (o, ob) => (.osl o 0 new.length, ob)
   | .osl o i n =>
    if fb.contains o then none else
    match ob[o]? with
    | some (.list z rows) => if z = esz ∧ i + n = rows.length ∧ rows.length ≤ 16777216 then some (.osl o i (n + new.length), ob.set o (.list z (rows ++ new))) else none
    | _ => none
   | _ => none
  else none
theorem ev_app {fb nw f ob e b z x y} : ev fb nw ⟨f, ob⟩ (.app e b z x y) = appO ob fb nw e (St.val ⟨f, ob⟩ x) (rowsOf ob fb (St.val ⟨f, ob⟩ y)) := by
 simp only [ev, appO, Bool.and_eq_true, decide_eq_true_eq]
 rfl
theorem appO_osl {ob fb nw e o i n new rows} (hf : fb.contains o = false) (ho : ob[o]? = some (.list e rows)) (h1 : i + n = rows.length) (h2 : rows.length ≤ 16777216) (h3 : rowsOk e new = true) (h4 : new.length ≤ 16777216) :
  appO ob fb nw e (.osl o i n) (some new) = some (.osl o i (n + new.length), ob.set o (.list e (rows ++ new))) := by
 have h5 : (rowsOk e new && decide (new.length ≤ 16777216)) = true := by simp [h3, h4]
 have h6 : e = e ∧ i + n = rows.length ∧ rows.length ≤ 16777216 := ⟨rfl, h1, h2⟩
 simp only [appO, Option.bind_some, h5, if_true, hf, Bool.false_eq_true, if_false, ho, h6, and_self]
theorem appO_nils {ob fb e new} (h3 : rowsOk e new = true) (h4 : new.length ≤ 16777216) : appO ob fb none e .nils (some new) = some (.osl ob.length 0 new.length, ob ++ [.list e new]) := by
 have h5 : (rowsOk e new && decide (new.length ≤ 16777216)) = true := by simp [h3, h4]
 simp only [appO, Option.bind_some, h5, if_true]; rfl
theorem appO_nilsA {ob fb e new p} (h : ob[p]? = some .none) (h3 : rowsOk e new = true) (h4 : new.length ≤ 16777216) : appO ob fb (some p) e .nils (some new) = some (.osl p 0 new.length, ob.set p (.list e new)) := by
 have h5 : (rowsOk e new && decide (new.length ≤ 16777216)) = true := by simp [h3, h4]
 simp only [appO, Option.bind_some, h5, if_true, mkO, h]; rfl
def appsO (ob : List AObj) (fb : List Nat) (e : TypeId) (x y : PV) : Option (PV × List AObj) :=
 match y with
 | .str l =>
  if l.length ≤ 16777216 then
   match x with
   | .osl o 0 n =>
    if fb.contains o then none else
    match ob[o]? with
    | some (.buf u bs) => if u = e ∧ n = bs.length ∧ bs.length ≤ 16777216 then some (.osl o 0 (n + l.length), ob.set o (.buf u (bs ++ l))) else none
    | _ => none
   | _ => none
  else none
 | _ => none
theorem ev_apps {fb nw f ob e x y} : ev fb nw ⟨f, ob⟩ (.apps e x y) = appsO ob fb e (St.val ⟨f, ob⟩ x) (St.val ⟨f, ob⟩ y) := nr rfl
theorem appsO_osl {ob fb e o n l bs} (hf : fb.contains o = false) (ho : ob[o]? = some (.buf e bs)) (h1 : n = bs.length) (h2 : bs.length ≤ 16777216) (h3 : l.length ≤ 16777216) :
  appsO ob fb e (.osl o 0 n) (.str l) = some (.osl o 0 (n + l.length), ob.set o (.buf e (bs ++ l))) := by
 have h6 : e = e ∧ n = bs.length ∧ bs.length ≤ 16777216 := ⟨rfl, h1, h2⟩
 simp only [appsO, h3, if_true, hf, Bool.false_eq_true, if_false, ho, h6, and_self]
def usdV (ob : List AObj) (fb : List Nat) : PV → Option PV
 | .osl o 0 n =>
  if fb.contains o then none else
  match ob[o]? with
  | some (.buf _ bs) => if n = bs.length then some (if n = 0 then .nilp else .lref o 0 0 n) else none
  | _ => none
 | _ => none
theorem ev_usd {fb nw f ob x} : ev fb nw ⟨f, ob⟩ (.usd x) = tag ob (usdV ob fb (St.val ⟨f, ob⟩ x)) := by
 simp only [ev, usdV, tag]
 split
 ·rename_i o n hx
  simp only [hx]
  split
  ·rfl
  ·cases ob[o]? with
   | none => rfl
   | some a =>
    cases a <;> try rfl
    simp only []; split <;> rfl
 ·rename_i hx
  split
  ·rename_i o n hx2; exact absurd hx2 (hx _ _)
  ·rfl
theorem usdV_at {ob fb o n e bs} (hf : fb.contains o = false) (ho : ob[o]? = some (.buf e bs)) (h : n = bs.length) : usdV ob fb (.osl o 0 n) = some (if n = 0 then .nilp else .lref o 0 0 n) := by
 simp only [usdV, hf, Bool.false_eq_true, if_false, ho, h, if_true]
def ustV (ob : List AObj) (fb : List Nat) (e : TypeId) (x y : PV) : Option PV :=
 match x, y with
 | .lref o 0 0 len, .int k n =>
  if fb.contains o then none else
  match ob[o]? with
  | some (.buf u bs) => if u = e ∧ bs.length = len ∧ n = len ∧ 0 < len ∧ len ≤ 16777216 ∧ k = .i64 then some (.str bs) else none
  | _ => none
 | .nilp, .int k n => if n = 0 ∧ k = .i64 then some (.str []) else none
 | _, _ => none
theorem ev_ust {fb nw f ob e x y} : ev fb nw ⟨f, ob⟩ (.ust e x y) = tag ob (ustV ob fb e (St.val ⟨f, ob⟩ x) (St.val ⟨f, ob⟩ y)) := by
 simp only [ev, ustV, tag]
 generalize St.val ⟨f, ob⟩ x = X
 generalize St.val ⟨f, ob⟩ y = Y
 cases X with
 | lref o i off len =>
  cases i with
  | zero =>
   cases off with
   | zero =>
    cases Y with
    | int k n =>
     simp only []
     split
     ·rfl
     ·cases ob[o]? with
      | none => rfl
      | some a =>
       cases a with
       | buf u bs => simp only []; split <;> rfl
       | _ => rfl
    | _ => rfl
   | succ => cases Y <;> rfl
  | succ => cases off <;> cases Y <;> rfl
 | nilp =>
  cases Y with
  | int k n => simp only []; split <;> rfl
  | _ => rfl
 | _ => cases Y <;> rfl
theorem ustV_at {ob fb e o} {k : Int} {n : Nat} {bs} (hf : fb.contains o = false) (ho : ob[o]? = some (.buf e bs)) (h1 : bs.length = n) (h2 : k = (n : Int)) (h3 : 0 < n) (h4 : n ≤ 16777216) : ustV ob fb e (.lref o 0 0 n) (.int .i64 k) = some (.str bs) := by
 have h5 : e = e ∧ bs.length = n ∧ k = (n : Int) ∧ 0 < n ∧ n ≤ 16777216 ∧ IntKind.i64 = IntKind.i64 := ⟨rfl, h1, h2, h3, h4, rfl⟩
 simp only [ustV, hf, Bool.false_eq_true, if_false, ho]
 exact if_pos (by simpa using h5)
theorem ustV_nil {ob fb e} : ustV ob fb e .nilp (.int .i64 0) = some (.str []) := by simp [ustV]
def sslV (ob : List AObj) (fb : List Nat) (esz : Nat) (x : PV) (lo hi : Option (Option Int)) : Option PV :=
 match lo, hi with
 | some a, some b =>
  match x with
  | .slc rows => if rowsOk esz rows = true then (bounds rows.length a b).map fun (i, j) => .slc ((rows.take j).drop i) else none
  | .nils => (bounds 0 a b).map fun _ => .nils
  | .osl o j m =>
   if fb.contains o then none else
   match ob[o]? with
   | some (.list z rows) => if z = esz ∧ j + m = rows.length then (bounds m a b).bind fun (i, k) => if k = m then some (.osl o (j + i) (m - i)) else none else none
   | _ => none
  | _ => none
 | _, _ => none
theorem ev_ssl {fb nw f ob e x lo hi} : ev fb nw ⟨f, ob⟩ (.ssl e x lo hi) = tag ob (sslV ob fb e (St.val ⟨f, ob⟩ x) (optI ⟨f, ob⟩ lo) (optI ⟨f, ob⟩ hi)) := by
 simp only [ev, sslV, tag]
 cases optI ⟨f, ob⟩ lo <;> cases optI ⟨f, ob⟩ hi <;> try rfl
 rename_i a b
 generalize St.val ⟨f, ob⟩ x = X
 cases X with
 | nils => simp only []; cases bounds 0 a b <;> rfl
 | slc rows =>
  simp only []
  split
  ·cases bounds rows.length a b <;> rfl
  ·rfl
 | osl o j m =>
  simp only []
  split
  ·rfl
  ·cases ob[o]? with
   | none => rfl
   | some y =>
    cases y with
    | list z rows =>
     simp only []
     split
     ·cases bounds m a b with
      | none => rfl
      | some p => obtain ⟨i, k⟩ := p; simp only [Option.bind_some]; split <;> rfl
     ·rfl
    | _ => rfl
 | _ => rfl
theorem sslV_to {ob fb e rows} {h : Nat} (hr : rowsOk e rows = true) (hh : h ≤ rows.length) : sslV ob fb e (.slc rows) (some none) (some (some (h : Int))) = some (.slc (rows.take h)) := by
 simp [sslV, hr, bounds, hh]
theorem sslV_nil0 {ob fb e} : sslV ob fb e .nils (some none) (some (some 0)) = some .nils := by simp [sslV, bounds]
theorem sslV_nil1 {ob fb e} : sslV ob fb e .nils (some (some 0)) (some none) = some .nils := by simp [sslV, bounds]
def eqsV (neg : Bool) (ks : List CK) (x y : PV) : Option PV :=
 match x, y with
 | .agg a, .agg b => (eqCs ks a b).map fun t => .bool (if neg then !t else t)
 | _, _ => none
theorem ev_eqs {fb nw f ob neg ks x y} : ev fb nw ⟨f, ob⟩ (.eqs neg ks x y) = tag ob (eqsV neg ks (St.val ⟨f, ob⟩ x) (St.val ⟨f, ob⟩ y)) := by
 simp only [ev, eqsV, tag]
 generalize St.val ⟨f, ob⟩ x = X
 generalize St.val ⟨f, ob⟩ y = Y
 cases X <;> try rfl
 cases Y <;> try rfl
 simp only []
 rename_i a b
 cases eqCs ks a b <;> rfl
theorem eqsV_p {ks a b} : eqsV false ks (.agg a) (.agg b) = (eqCs ks a b).map .bool := by simp [eqsV]
theorem eqsV_n {ks a b} : eqsV true ks (.agg a) (.agg b) = (eqCs ks a b).map fun t => .bool (!t) := by simp [eqsV]
def andO (x y : Option Bool) : Option Bool :=
 match x, y with
 | some a, some b => some (a && b)
 | _, _ => none
theorem andO_some {a b} : andO (some a) (some b) = some (a && b) := nr rfl
theorem eqCs_nil : eqCs [] [] [] = some true := nr rfl
theorem eqCs_cons {k ks a r b r'} : eqCs (k :: ks) (a :: r) (b :: r') = andO (eqC k a b) (eqCs ks r r') := by
 simp only [eqCs, andO]
 cases eqC k a b <;> cases eqCs ks r r' <;> rfl
theorem eqC_i {k a b} : eqC .i (.int k a) (.int k b) = some (a == b) := by simp [eqC]
theorem eqC_b {a b} : eqC .b (.bool a) (.bool b) = some (a == b) := nr rfl
theorem eqC_s {a b} : eqC .s (.str a) (.str b) = some (a == b) := nr rfl
def eqbV (neg : Bool) (x y : PV) : Option PV :=
 match x, y with
 | .bool a, .bool b => some (.bool (if neg then !(a == b) else a == b))
 | _, _ => none
theorem ev_eqb {fb nw f ob neg x y} : ev fb nw ⟨f, ob⟩ (.eqb neg x y) = tag ob (eqbV neg (St.val ⟨f, ob⟩ x) (St.val ⟨f, ob⟩ y)) := by
 simp only [ev, eqbV, tag]
 generalize St.val ⟨f, ob⟩ x = X
 generalize St.val ⟨f, ob⟩ y = Y
 cases X <;> try rfl
 cases Y <;> rfl
theorem eqbV_f {a b} : eqbV false (.bool a) (.bool b) = some (.bool (a == b)) := nr rfl
theorem eqbV_t {a b} : eqbV true (.bool a) (.bool b) = some (.bool (!(a == b))) := nr rfl
def mmV (m : Bool) (xs : List PV) : Option PV :=
 match xs with
 | .int k a :: r => (mmI m k a r).map fun n => .int k n
 | _ => none
theorem ev_mm {fb nw f ob m xs} : ev fb nw ⟨f, ob⟩ (.mm m xs) = tag ob (mmV m (xs.map (St.val ⟨f, ob⟩))) := by
 simp only [ev, mmV, tag]
 generalize xs.map (St.val ⟨f, ob⟩) = l
 cases l with
 | nil => rfl
 | cons a r =>
  cases a <;> try rfl
  simp only []
  rename_i k a
  cases mmI m k a r <;> rfl
theorem mmV_int {m k a r} : mmV m (.int k a :: r) = (mmI m k a r).map fun n => .int k n := nr rfl
theorem mmI_nil {m k a} : mmI m k a [] = some a := by simp [mmI]
theorem mmI_max {k a b r} : mmI true k a (.int k b :: r) = mmI true k (max a b) r := by
 simp only [mmI, if_true]; congr 1
 by_cases h : b > a
 ·rw [if_pos h, Int.max_eq_right (by omega)]
 ·rw [if_neg h, Int.max_eq_left (by omega)]
theorem mmI_min {k a b r} : mmI false k a (.int k b :: r) = mmI false k (min a b) r := by
 simp only [mmI, if_true, Bool.false_eq_true, if_false]; congr 1
 by_cases h : b < a
 ·rw [if_pos h, Int.min_eq_right (by omega)]
 ·rw [if_neg h, Int.min_eq_left (by omega)]
theorem ev_mki {fb nw f ob t x} : ev fb nw ⟨f, ob⟩ (.mki t x) = some (.ifc t (St.val ⟨f, ob⟩ x), ob) := nr rfl
def tasV (t : TypeId) (v : PV) : Option PV :=
 match v with
 | .ifc t' p => some (if t' = t then .tup [p, .bool true] else .tup [.nilp, .bool false])
 | .nili => some (.tup [.nilp, .bool false])
 | _ => none
theorem ev_tas {fb nw f ob t x} : ev fb nw ⟨f, ob⟩ (.tas t x) = tag ob (tasV t (St.val ⟨f, ob⟩ x)) := by
 simp only [ev, tasV]
 generalize St.val ⟨f, ob⟩ x = v
 cases v <;> rfl
theorem tasV_ifc {t t' p} : tasV t (.ifc t' p) = some (if t' = t then .tup [p, .bool true] else .tup [.nilp, .bool false]) := nr rfl
theorem tasV_nili {t} : tasV t .nili = some (.tup [.nilp, .bool false]) := nr rfl
def kI (P : Program) (nm : String) (v : PV) (args : List PV) (ob : List AObj) (K : PV → List AObj → Prop) : Prop :=
 match v with
 | .ifc t p => ∃ f, MethOk P t nm f ∧ ICall P f (p :: args) ob K
 | _ => False
theorem kI_ifc {P nm t p args ob K} : kI P nm (.ifc t p) args ob K = ∃ f, MethOk P t nm f ∧ ICall P f (p :: args) ob K := nr rfl
theorem callX {P : Program} {t : TypeId} {nm : String} {f : Nat} {ps : List PV} {ob : List AObj} {K : PV → List AObj → Prop} (hm : MethOk P t nm f) (h : ICall P f ps ob K) : ∃ f, MethOk P t nm f ∧ ICall P f ps ob K := ⟨f, hm, h⟩
theorem AOps_icalli {P bs K d nm x args nw fb tg os f ob} : AOps P bs (⟨d, .icalli nm x args, none, nw, fb, tg⟩ :: os) K ⟨f, ob⟩ = kI P nm (St.val ⟨f, ob⟩ x) (args.map (St.val ⟨f, ob⟩)) ob (kA P bs os K f d) := by
 simp only [AOps, AStep, AExec, kI]
 generalize St.val ⟨f, ob⟩ x = v
 cases v <;> first | rfl | (cases d <;> rfl)
theorem ev_mkfn {fb nw f ob g a b} : ev fb nw ⟨f, ob⟩ (.mkfn g a b) = some (.fn g (a.map (St.val ⟨f, ob⟩)) (b.map (St.val ⟨f, ob⟩)), ob) := nr rfl
theorem ev_lenc {fb nw f ob n} : ev fb nw ⟨f, ob⟩ (.lenc n) = some (.int .i64 n, ob) := nr rfl
def nilslV (neg : Bool) : PV → Option PV
 | .nils => some (.bool (!neg))
 | .slc (_ :: _) => some (.bool neg)
 | _ => none
theorem ev_nilsl {fb nw f ob neg x} : ev fb nw ⟨f, ob⟩ (.nilsl neg x) = tag ob (nilslV neg (St.val ⟨f, ob⟩ x)) := by
 simp only [ev, nilslV, tag]
 generalize St.val ⟨f, ob⟩ x = X
 cases X <;> try rfl
 rename_i rows; cases rows <;> rfl
theorem isCall_fail : AO.isCall .fail = false := nr rfl
theorem ev_fail {fb nw s} : ev fb nw s .fail = none := nr rfl
theorem kO_none {k} : kO none k = False := nr rfl
theorem ev_sarrO {fb nw f ob e l x lo hi} : ev fb nw ⟨f, ob⟩ (.sarr e l x lo hi) = tag ob (match optI ⟨f, ob⟩ lo, optI ⟨f, ob⟩ hi with
  | some a, some b =>
   match St.val ⟨f, ob⟩ x with
   | .ref o off => if e = 1 then (bounds l a b).map fun (i, j) => .bsl o (if i = l then off else off + i) (j - i) else none
   | _ => none
  | _, _ => none) := by
 simp only [ev, tag]
 cases optI ⟨f, ob⟩ lo <;> cases optI ⟨f, ob⟩ hi <;> try rfl
 rename_i a b
 generalize St.val ⟨f, ob⟩ x = X
 cases X <;> try rfl
 simp only []
 split
 ·cases bounds l a b <;> rfl
 ·rfl
def sarrV (e l : Nat) (x : PV) (lo hi : Option (Option Int)) : Option PV :=
 match lo, hi with
 | some a, some b =>
  match x with
  | .ref o off => if e = 1 then (bounds l a b).map fun (i, j) => .bsl o (if i = l then off else off + i) (j - i) else none
  | _ => none
 | _, _ => none
theorem ev_sarr {fb nw f ob e l x lo hi} : ev fb nw ⟨f, ob⟩ (.sarr e l x lo hi) = tag ob (sarrV e l (St.val ⟨f, ob⟩ x) (optI ⟨f, ob⟩ lo) (optI ⟨f, ob⟩ hi)) := by
 rw [ev_sarrO]; simp only [sarrV]
theorem sarrV_to {l o off} {h : Nat} (hh : decide (h ≤ l) = true) : sarrV 1 l (.ref o off) (some none) (some (some (h : Int))) = some (.bsl o off h) := by
 simp only [decide_eq_true_eq] at hh
 by_cases h0 : l = 0
 ·subst h0; have : h = 0 := by omega
  subst this; simp [sarrV, bounds]
 ·simp [sarrV, bounds, hh]
theorem sarrV_i {l o off} {h : Int} (h1 : 0 ≤ h) (h2 : h.toNat ≤ l) : sarrV 1 l (.ref o off) (some none) (some (some h)) = some (.bsl o off h.toNat) := by
 obtain ⟨k, rfl⟩ : ∃ k : Nat, h = k := ⟨h.toNat, by omega⟩
 rw [Int.toNat_natCast] at h2 ⊢
 exact sarrV_to (by simpa using h2)
theorem sarrV_all {l o off} : sarrV 1 l (.ref o off) (some none) (some none) = some (.bsl o off l) := by
 simp [sarrV, bounds]
theorem iarrV_i {e l : Nat} {o j : Nat} {k} {n : Int} (h1 : 0 ≤ n) (h2 : n.toNat < l) : iarrV e l (.ref o j) (.int k n) = some (.ref o (j + n.toNat * e)) := iarrV_ref h1 (by omega)
def rowsB (a : Option AObj) (off n : Nat) : Option (List (List PV)) :=
 match a with
 | some (.box cs) => if off + n ≤ cs.length ∧ ownL cs = false then some (((cs.drop off).take n).map fun c => [c]) else none
 | _ => none
theorem rowsOf_bsl {ob fb o off n} (hf : fb.contains o = false) : rowsOf ob fb (.bsl o off n) = rowsB ob[o]? off n := by
 simp only [rowsOf, hf, Bool.false_eq_true, if_false, rowsB]
 cases ob[o]? with
 | none => rfl
 | some a => cases a <;> rfl
theorem rowsB_box {cs off n} (h : (decide (off + n ≤ cs.length) && !(ownL cs)) = true) : rowsB (some (.box cs)) off n = some (((cs.drop off).take n).map fun c => [c]) := by
 simp only [Bool.and_eq_true, decide_eq_true_eq, Bool.not_eq_true'] at h
 simp only [rowsB, h, and_self, if_true]
theorem bytesOf_one {b : UInt8} {rs} : bytesOf? ([.int .u8 (b.toNat : Int)] :: rs) = (bytesOf? rs).map (b :: ·) := by
 have : byteOf? [.int .u8 (b.toNat : Int)] = some b := by simp [byteOf?]
 simp only [bytesOf?, this]; cases bytesOf? rs <;> rfl
def retO (a : Option AObj) (i n : Nat) : Option PV :=
 match a with
 | some (.list esz rows) => if i + n = rows.length then some (.own esz (rows.drop i)) else none
 | _ => none
theorem retV_osl {f ob o i n} : retV ⟨f, ob⟩ (.osl o i n) = retO ob[o]? i n := nr rfl
theorem retO_list {e rows n} (h : n = rows.length) : retO (some (.list e rows)) 0 n = some (.own e rows) := by simp [retO, h]
theorem retV_agg {f ob cs} : retV ⟨f, ob⟩ (.agg cs) = (snapL ob [] cs).map .agg := nr rfl
theorem retV_nilp {s} : retV s .nilp = some .nilp := by simp [retV, snap]
def retA (f : Nat → PV) (ob : List AObj) : ARV → Option PV
 | .t i => some (f i)
 | .c a none => loadV none (ldC ob [] (f a) 1)
 | .c a (some n) => loadV (some n) (ldC ob [] (f a) n)
theorem retA_t {f ob i} : retA f ob (.t i) = some (f i) := nr rfl
theorem retA_c {f ob a} : retA f ob (.c a none) = loadV none (ldC ob [] (f a) 1) := nr rfl
theorem retA_cn {f ob a n} : retA f ob (.c a (some n)) = loadV (some n) (ldC ob [] (f a) n) := nr rfl
theorem arv_eq {f ob x} : ARV.val ⟨f, ob⟩ x = retA f ob x := by
 cases x with
 | t i => rfl
 | c a n =>
  cases n with
  | none =>
   simp only [ARV.val, retA]
   cases ldC ob [] (f a) 1 with
   | none => rfl
   | some l => rcases l with _ | ⟨v, _ | ⟨w, l⟩⟩ <;> rfl
  | some n =>
   simp only [ARV.val, retA]
   cases ldC ob [] (f a) n <;> rfl
theorem retOf_c1 {f ob x} : retOf ⟨f, ob⟩ [x] = (retA f ob x).bind (retV ⟨f, ob⟩) := by rw [← arv_eq]; rfl
def retM (f : Nat → PV) (ob : List AObj) : List ARV → Option (List PV)
 | [] => some []
 | x :: r => consS (retA f ob x) (retM f ob r)
theorem retM_nil {f ob} : retM f ob [] = some [] := nr rfl
theorem retM_cons {f ob x r} : retM f ob (x :: r) = consS (retA f ob x) (retM f ob r) := nr rfl
theorem retM_eq {f ob} : ∀ (l : List ARV), l.mapM (ARV.val ⟨f, ob⟩) = retM f ob l
 | [] => rfl
 | x :: r => by
  rw [List.mapM_cons, retM_eq r, arv_eq, retM]
  cases retA f ob x <;> cases retM f ob r <;> rfl
theorem retOf_m {f ob x y r} : retOf ⟨f, ob⟩ (x :: y :: r) = (retM f ob (x :: y :: r)).bind fun vs => (snapL ob [] vs).map .tup := by
 rw [← retM_eq]; rfl
theorem rawOf_c1 {f ob x} : rawOf ⟨f, ob⟩ [x] = retA f ob x := by rw [← arv_eq]; rfl
theorem rawOf_m {f ob x y r} : rawOf ⟨f, ob⟩ (x :: y :: r) = (retM f ob (x :: y :: r)).map .tup := by
 rw [← retM_eq]; rfl
theorem bind_some' {p : List PV} {k : List PV → Option PV} : (some p).bind k = k p := nr rfl
theorem bind_some1 {p : PV} {k : PV → Option PV} : (some p).bind k = k p := nr rfl
theorem cutV_nilp {n} : cutV n .nilp = .nilp := by simp [cutV, PV.und]
theorem cutV_bot {n} : cutV n .bot = .bot := by simp [cutV, PV.und]
theorem cutV_fn {n f} : cutV n (.fn f [] []) = .fn f [] [] := by simp [cutV, PV.und, undL]
theorem cutV_fptr {n cs} : cutV n (.fptr cs) = .fptr cs := by simp [cutV, PV.und]
theorem undL_nil {n} : undL n [] = true := by simp [undL]
theorem undL_int {n k m r} : undL n (.int k m :: r) = undL n r := by simp [undL, PV.und]
theorem undL_bool {n b r} : undL n (.bool b :: r) = undL n r := by simp [undL, PV.und]
theorem undL_str {n b r} : undL n (.str b :: r) = undL n r := by simp [undL, PV.und]
theorem undL_slc {n b r} : undL n (.slc b :: r) = undL n r := by simp [undL, PV.und]
theorem undL_nils {n r} : undL n (.nils :: r) = undL n r := by simp [undL, PV.und]
theorem cutO_box {n cs} : cutO n (.box cs) = .box (cs.map (cutV n)) := nr rfl
theorem cutO_tbox {n t cs} : cutO n (.tbox t cs) = .tbox t (cs.map (cutV n)) := nr rfl
theorem cutO_list {n e rows} : cutO n (.list e rows) = .list e rows := nr rfl
theorem cutO_buf {n e bs} : cutO n (.buf e bs) = .buf e bs := nr rfl
theorem cutO_none {n} : cutO n .none = .none := nr rfl
end Go.Proofs.YtdgpiobmncohjaaGreatDoor.Aw
