/-
 A tree's extents, all of them or those near a range; what it says of a sector; laying over and cutting.; A tree with its height; how high it is; its nodes, one by one.; A tree is read from pages: its nodes.; A tree's nodes are written, one behind the other.
-/
import Derived.Test.YtdgpiobmncohjaaGreatDoorKaw
import Derived.Test.YtdgpiobmncohjaaGreatDoorKbe
import Derived.Test.YtdgpiobmncohjaaGreatDoorKay
set_option linter.all false
set_option maxRecDepth 100000
namespace Go.Proofs.YtdgpiobmncohjaaGreatDoor.Aw
open Go.RowKit Ar
structure OutAt (ob0 : List AObj) (b : Nat) (o : List Xt) (ob : List AObj) : Prop where
 s : Same ob0 ob (· = b)
 ex : ∃ v m, ob[b]? = some (.box [v]) ∧ OwnL ob v m o ∧ ob0.length ≤ m
theorem OutAt.app {ob0 : List AObj} {b : Nat} {o : List Xt} {ob : List AObj} (h : OutAt ob0 b o ob) (x : AObj) : OutAt ob0 b o (ob ++ [x]) := by
 obtain ⟨v, m, h1, h2, h3⟩ := h.ex
 have hS : Same ob (ob ++ [x]) (fun _ => False) := Same.app _ _ _
 exact ⟨h.s.trans (hS.mono fun _ h => h.elim), v, m, app1 h1 [x], h2.same hS (fun h => h), h3⟩
theorem rowsOk_one (e : Xt) : rowsOk 4 [[PV.int .i64 e.fr, .int .i64 e.n, .int .i64 e.kd, .int .i64 e.at_]] = true := by rfl
theorem appN (ob : List AObj) (e : Xt) : appO ob [] none 4 .nils (some [[.int .i64 e.fr, .int .i64 e.n, .int .i64 e.kd, .int .i64 e.at_]]) = some (.osl ob.length 0 1, ob ++ [AObj.list 4 ([e].map rowE)]) := by
 rw [appO_nils (rowsOk_one e) (by simp)]; rfl
theorem appM {ob : List AObj} {m : Nat} {o : List Xt} (e : Xt) (h : ob[m]? = some (.list 4 (o.map rowE))) (hl : o.length < 16777216) : appO ob [] none 4 (.osl m 0 o.length) (some [[.int .i64 e.fr, .int .i64 e.n, .int .i64 e.kd, .int .i64 e.at_]]) = some (.osl m 0 (o.length + 1), ob.set m (.list 4 ((o ++ [e]).map rowE))) := by
 rw [appO_osl rfl h (by simp) (by simp; omega) (rowsOk_one e) (by simp)]; simp [rowE]
theorem OutAt.put0 {ob0 : List AObj} {b : Nat} {ob : List AObj} {e : Xt} (hb : b < ob0.length) (h : OutAt ob0 b [] ob) : OutAt ob0 b [e] ((ob ++ [AObj.list 4 ([e].map rowE)]).set b (AObj.box [.osl ob.length 0 1])) := by
 have l0 := h.s.1
 have hS : Same ob (ob ++ [AObj.list 4 ([e].map rowE)]) (· = b) := Same.app _ _ _
 have hT : Same (ob ++ [AObj.list 4 ([e].map rowE)]) ((ob ++ [AObj.list 4 ([e].map rowE)]).set b (AObj.box [.osl ob.length 0 1])) (· = b) := Same.set rfl
 exact ⟨(h.s.trans hS).trans hT, _, ob.length, setS (by rw [List.length_append]; omega) _, .inr ⟨rfl, hT.get (app0 _ _) (by omega)⟩, l0⟩
theorem OutAt.put1 {ob0 : List AObj} {b m : Nat} {ob : List AObj} {o : List Xt} {e : Xt} (hb : b < ob0.length) (h : OutAt ob0 b o ob) (hm : ob[m]? = some (.list 4 (o.map rowE))) (h0 : ob0.length ≤ m) : OutAt ob0 b (o ++ [e]) ((ob.set m (AObj.list 4 ((o ++ [e]).map rowE))).set b (.box [.osl m 0 (o.length + 1)])) := by
 have l0 := h.s.1
 have hml := (List.getElem?_eq_some_iff.1 hm).1
 have hT : Same (ob.set m (AObj.list 4 ((o ++ [e]).map rowE))) ((ob.set m (AObj.list 4 ((o ++ [e]).map rowE))).set b (.box [.osl m 0 (o.length + 1)])) (· = b) := Same.set rfl
 refine ⟨⟨by rw [List.length_set, List.length_set]; exact l0, fun j hj hn => ?_⟩, _, m, setS (by rw [List.length_set]; omega) _, .inr ⟨by rw [List.length_append]; rfl, hT.get (setS hml _) (by omega)⟩, h0⟩
 rw [List.getElem?_set_ne (by omega), List.getElem?_set_ne (by omega)]
 exact h.s.2 j hj hn
theorem all_cb {ob0 : List AObj} {b : Nat} (hb : b < ob0.length) : CbOk 57 [.ref b 0] (OutAt ob0 b) (fun o e => (true, o ++ [e])) List.length where
 grow s e := by simp
 app s ob x h := h.app x
 call := by
  intro o ob e he hl h
  have hO := h.app (AObj.box (rowE e))
  refine icall_dr Tryz.func57 E57.h ?_
  simp only [U57, rowE, seval, bA]
  have f1 := app0 ob (AObj.box (rowE e))
  simp only [rowE] at f1 hO
  generalize ob ++ [AObj.box [.int .i64 e.fr, .int .i64 e.n, .int .i64 e.kd, .int .i64 e.at_]] = ob1 at *
  obtain ⟨v, m, f0, h2, h3⟩ := hO.ex
  have hap := appN ob1 e
  rcases h2 with ⟨rfl, rfl⟩ | ⟨rfl, hm⟩
  ·have g1 : ∀ l, (ob1 ++ l)[b]? = _ := fun l => app1 f0 l
   simp only [U57, f0, f1, ldB1, hap, g1, seval, bA]
   exact ⟨_, rfl, rfl, hO.put0 hb⟩
  ·have hg : ∀ x, (ob1.set m x)[b]? = _ := fun x => setO (x := x) (show m ≠ b by omega) f0
   have hap := appM e hm hl
   simp only [U57, f0, f1, ldB1, hap, hg, seval, bA]
   exact ⟨_, rfl, rfl, hO.put1 hb hm h3⟩
theorem near_cb {ob0 : List AObj} {b c1 c2 : Nat} {f t : Int} (hb : b < ob0.length) (h1 : ob0[c1]? = some (.box [.int .i64 t])) (h2 : ob0[c2]? = some (.box [.int .i64 f])) (hc1 : c1 ≠ b) (hc2 : c2 ≠ b) : CbOk 89 [.ref c1 0, .ref c2 0, .ref b 0] (OutAt ob0 b) (nearF f t) List.length where
 grow s e := by unfold nearF; split <;> (try split) <;> simp
 app s ob x h := h.app x
 call := by
  intro o ob e he hl h
  have hO := h.app (AObj.box (rowE e))
  refine icall_dr Tryz.func89 E89.h ?_
  simp only [U89, rowE, seval, bA]
  have f1 := app0 ob (AObj.box (rowE e))
  simp only [rowE] at f1 hO
  generalize ob ++ [AObj.box [.int .i64 e.fr, .int .i64 e.n, .int .i64 e.kd, .int .i64 e.at_]] = ob1 at *
  have k1 := hO.s.get h1 hc1
  have k2 := hO.s.get h2 hc2
  by_cases ht : t < e.fr
  ·have dt : decide (t < e.fr) = true := decide_eq_true ht
   simp only [U89, f1, k1, ldB1, dt, seval, bA]
   refine ⟨_, rfl, ?_, ?_⟩
   ·simp [nearF, ht]
   ·simp only [nearF, if_pos ht]; exact hO
  ·have dt : decide (t < e.fr) = false := decide_eq_false ht
   have w : IntKind.i64.wrap (e.fr + e.n) = endE e := by rw [wrapI (by have := he.1; have := he.2.1; omega) (by have := he.2.2.2.1; omega)]; rfl
   by_cases hf : f ≤ endE e
   ·have df : decide (f ≤ endE e) = true := decide_eq_true hf
    have hst : nearF f t o e = (true, o ++ [e]) := by simp [nearF, ht, hf]
    rw [hst]
    obtain ⟨v, m, f0, h2, h3⟩ := hO.ex
    have hap := appN ob1 e
    rcases h2 with ⟨rfl, rfl⟩ | ⟨rfl, hm⟩
    ·have g1 : ∀ l, (ob1 ++ l)[b]? = _ := fun l => app1 f0 l
     simp only [U89, f0, f1, k1, k2, ldB1, hap, g1, dt, df, w, seval, bA]
     exact ⟨_, rfl, rfl, hO.put0 hb⟩
    ·have hg : ∀ x, (ob1.set m x)[b]? = _ := fun x => setO (x := x) (show m ≠ b by omega) f0
     have hap := appM e hm hl
     simp only [U89, f0, f1, k1, k2, ldB1, hap, hg, dt, df, w, seval, bA]
     exact ⟨_, rfl, rfl, hO.put1 hb hm h3⟩
   ·have df : decide (f ≤ endE e) = false := decide_eq_false hf
    have hst : nearF f t o e = (true, o) := by simp [nearF, ht, hf]
    rw [hst]
    simp only [U89, f1, k1, k2, ldB1, dt, df, w, seval, bA]
    exact ⟨_, rfl, rfl, hO⟩
theorem all_i [Fr] {ob : List AObj} {t : Nat} {l : List Xt} {fp : List Nat} (hT : TreeAt ob t l fp) (hch : Chain 0 l) :
  ICall Tryz.prog 19 [.ref t 0] ob fun r ob' => ∃ m, OwnL ob' r m l ∧ ob.length ≤ m ∧ Same ob ob' (fun _ => False) := by
 refine icall_dr Tryz.func19 E19.h ?_
 simp only [U19, seval, bA]
 have hS0 : Same ob (ob ++ [AObj.box [.nils]]) (fun _ => False) := Same.app _ _ _
 have f0 := app0 ob (AObj.box [.nils])
 have hl0 : (ob ++ [AObj.box [.nils]]).length = ob.length + 1 := by simp
 have hT0 := hT.same hS0 (fun _ _ h => h)
 have hlt := hT.lt
 generalize ob ++ [AObj.box [.nils]] = ob1 at *
 have hO : OutAt ob1 ob.length [] ob1 := ⟨Same.refl _ _, _, ob1.length, f0, .inl ⟨rfl, rfl⟩, Nat.le_refl _⟩
 have hw := walk_i (sec := -1) (s := []) (all_cb (ob0 := ob1) (b := ob.length) (by omega)) hT0 hch (fun s ob' h i hi => h.s.2 i (by have := hlt i hi; omega) (by have := hlt i hi; omega)) (by have := chain_len0 hch; simp only [List.length_nil]; omega) hO
 refine callM hw ?_
 intro r ob2 h
 have hfl : fltS (-1) l = l := List.filter_eq_self.2 fun e he => by
  have h1 := (chain_one hch e he).1
  have h2 := (chain_one hch e he).2.1
  exact decide_eq_true (show -1 < endE e by simp only [endE]; omega)
 rw [hfl, run_all] at h
 simp only [List.nil_append] at h
 obtain ⟨v, m, h1, h2, h3⟩ := h.ex
 simp only [U19, h1, ldB1, seval, bA]
 have hfin : Same ob ob2 (fun _ => False) := ⟨by have := h.s.1; omega, fun j hj _ => (h.s.2 j (by omega) (by omega)).trans (hS0.2 j hj (fun h => h))⟩
 rcases h2 with ⟨rfl, rfl⟩ | ⟨rfl, h2⟩
 ·try simp only [U19, h1, ldB1, seval, bA]
  exact ⟨_, rfl, m, .inl ⟨rfl, rfl⟩, by omega, hfin⟩
 ·try simp only [U19, h1, ldB1, seval, bA]
  exact ⟨_, rfl, m, .inr ⟨rfl, h2⟩, by omega, hfin⟩
theorem near_i [Fr] {ob : List AObj} {t : Nat} {l : List Xt} {fp : List Nat} {f u : Int} (hT : TreeAt ob t l fp) (hch : Chain 0 l) (hf : 0 ≤ f ∧ f ≤ 16777216) (hu : u ≤ 16777216) :
  ICall Tryz.prog 53 [.ref t 0, .int .i64 f, .int .i64 u] ob fun r ob' => ∃ m, OwnL ob' r m (nearS l f u) ∧ ob.length ≤ m ∧ Same ob ob' (fun _ => False) := by
 refine icall_dr Tryz.func53 E53.h ?_
 have w : IntKind.i64.wrap (f - 1) = f - 1 := wrapI (by omega) (by omega)
 obtain ⟨ex, hex⟩ : ∃ ex, ex = [AObj.box [.int .i64 f], AObj.box [.int .i64 u], AObj.box [.nils]] := ⟨_, rfl⟩
 have hS0 : Same ob (ob ++ ex) (fun _ => False) := Same.app _ _ _
 have f0 : (ob ++ ex)[ob.length]? = some (.box [.int .i64 f]) := by rw [List.getElem?_append_right (Nat.le_refl _), Nat.sub_self, hex]; rfl
 have f1 : (ob ++ ex)[ob.length + 1]? = some (.box [.int .i64 u]) := by rw [List.getElem?_append_right (by omega), Nat.add_sub_cancel_left, hex]; rfl
 have f2 : (ob ++ ex)[ob.length + 2]? = some (.box [.nils]) := by rw [List.getElem?_append_right (by omega), Nat.add_sub_cancel_left, hex]; rfl
 have hl0 : (ob ++ ex).length = ob.length + 3 := by rw [List.length_append, hex]; rfl
 have hT0 := hT.same hS0 (fun _ _ h => h)
 have hlt := hT.lt
 simp only [U53, w, seval, bA]
 rw [← hex]
 generalize ob ++ ex = ob1 at *
 simp only [U53, w, f0, ldB1, seval, bA]
 have hO : OutAt ob1 (ob.length + 2) [] ob1 := ⟨Same.refl _ _, _, ob1.length, f2, .inl ⟨rfl, rfl⟩, Nat.le_refl _⟩
 have hw := walk_i (sec := f - 1) (s := []) (near_cb (ob0 := ob1) (b := ob.length + 2) (by omega) f1 f0 (by omega) (by omega)) hT0 hch (fun s ob' h i hi => h.s.2 i (by have := hlt i hi; omega) (by have := hlt i hi; omega)) (by have := chain_len0 hch; simp only [List.length_nil]; omega) hO
 refine callM hw ?_
 intro r ob2 h
 rw [run_near [] hch] at h
 simp only [List.nil_append] at h
 obtain ⟨v, m, h1, h2, h3⟩ := h.ex
 simp only [U53, h1, ldB1, seval, bA]
 have hfin : Same ob ob2 (fun _ => False) := ⟨by have := h.s.1; omega, fun j hj _ => (h.s.2 j (by omega) (by omega)).trans (hS0.2 j hj (fun h => h))⟩
 rcases h2 with ⟨h2, rfl⟩ | ⟨rfl, h2⟩
 ·try simp only [U53, h1, ldB1, seval, bA]
  exact ⟨_, rfl, m, .inl ⟨h2, rfl⟩, by omega, hfin⟩
 ·try simp only [U53, h1, ldB1, seval, bA]
  exact ⟨_, rfl, m, .inr ⟨rfl, h2⟩, by omega, hfin⟩
theorem chg_over {m : List Xt} {e : Xt} (hm : OkL m) (he : OneP e) : Chg (befS m e.fr) (behS m (endE e)) (nearS m e.fr (endE e)) (overS (nearS m e.fr (endE e)) e) := by
 have hft : e.fr ≤ endE e := by have := he.2.1; simp only [endE]; omega
 have hs := near_split hft hm.1
 obtain ⟨h1, h2⟩ := over_near hm he
 have h3 := over_ok hm he
 rw [h2] at h3
 have hm' := hm
 rw [hs] at hm'
 exact ⟨chain_sort hm'.1, chain_sort h3.1, chain_bd hm'.1, chain_bd h3.1⟩
theorem chg_cut {m : List Xt} {f n : Int} (hm : OkL m) (hsp : SpanP f n) : Chg (befS m f) (behS m (f + n)) (nearS m f (f + n)) (cutS (nearS m f (f + n)) f n) := by
 have hft : f ≤ f + n := by have := hsp.2.1; omega
 have hs := near_split hft hm.1
 obtain ⟨h1, h2⟩ := cut_near hm hsp
 have h3 := cut_ok hm hsp
 rw [h2] at h3
 have hm' := hm
 rw [hs] at hm'
 exact ⟨chain_sort hm'.1, chain_sort h3.1, chain_bd hm'.1, chain_bd h3.1⟩
def errO (e : Xt) : Int := if OneP e then 0 else 1
def errC (f n : Int) : Int := if SpanP f n then 0 else 1
def overT (m : List Xt) (e : Xt) : List Xt := if OneP e then overS m e else m
def cutT (m : List Xt) (f n : Int) : List Xt := if SpanP f n then cutS m f n else m
theorem overT_ok {m : List Xt} {e : Xt} (h : OkL m) : OkL (overT m e) := by
 unfold overT
 split
 ·rename_i he; exact over_ok h he
 ·exact h
theorem cutT_ok {m : List Xt} {f n : Int} (h : OkL m) : OkL (cutT m f n) := by
 unfold cutT
 split
 ·rename_i he; exact cut_ok h he
 ·exact h
theorem overA_i {ob : List AObj} {v : PV} {m : Nat} {l : List Xt} {e : Xt} (ho : OwnL ob v m l) (hok : OkL l) (hs' : OneP e) :
  ICall Tryz.prog 54 [v, pE e] ob fun r ob' => r = okR (overS l e) ∧ Same ob ob' (fun _ => False) := by
 have hs := decide_eq_true hs'
 have hb := okB_ok.2 hok
 have hlen := ok_len hok
 have hcl := chain_len0 (over_chain hok hs')
 have f1 := app0 ob (AObj.box (rowE e))
 have hS0 : Same ob (ob ++ [AObj.box (rowE e)]) (fun _ => False) := Same.app _ _ _
 have hone := one_spec e
 have hend := end_spec e hs'
 have c1 := check_spec l (by omega)
 have c2 := parts_spec l 0 e.fr (chain_one hok.1) hlen
 have c3 := parts_spec l (endE e) 16777216 (chain_one hok.1) hlen
 have ho' := ho.same hS0 (fun h => h)
 refine icall_dr Tryz.func54 E54.h ?_
 simp only [pE, rowE] at f1 hS0 hone hend ho'
 rcases ho' with ⟨rfl, rfl⟩ | ⟨rfl, hm⟩
 ·simp only [U54, rowE, seval, bA]
  generalize ob ++ [AObj.box [.int .i64 e.fr, .int .i64 e.n, .int .i64 e.kd, .int .i64 e.at_]] = ob1 at *
  refine callI (PCall.nzA (args' := [.nils]) c1 rfl) ?_
  simp only [U54, hb, f1, ldB1, seval, bA]
  refine callI hone ?_
  simp only [U54, hs, f1, ldB1, seval, bA]
  refine callI (PCall.nzA (args' := [.nils, .int .i64 0, .int .i64 e.fr]) c2 rfl) ?_
  simp only [U54, f1, ldB1, seval, bA]
  refine callI hend ?_
  simp only [U54, seval, bA]
  refine callI (PCall.nzA (args' := [.nils, .int .i64 (endE e), .int .i64 16777216]) c3 rfl) ?_
  simp only [U54, seval, bA]
  refine callI (concat_spec [partsS [] 0 e.fr, [e], partsS [] (endE e) 16777216] (by simp) (by simpa using hcl)) ?_
  simp only [U54, List.flatten_cons, List.flatten_nil, List.append_nil, seval, bA]
  refine callI (tidy_spec (partsS [] 0 e.fr ++ ([e] ++ partsS [] (endE e) 16777216)) (over_chain hok hs')) ?_
  simp only [U54, seval, bA]
  exact ⟨_, rfl, rfl, hS0⟩
 ·have ho3 : rowsO (some (AObj.list 4 (l.map rowE))) 0 l.length = some (l.map rowE) := by simp [rowsO]
  have hfl : ∀ a b, PV.flatR (.own 4 ((partsS l a b).map rowE)) = true := fun a b => by rw [flatR_own]; simp [flatL, PV.flat, rowE]
  simp only [U54, rowE, seval, bA]
  generalize ob ++ [AObj.box [.int .i64 e.fr, .int .i64 e.n, .int .i64 e.kd, .int .i64 e.at_]] = ob1 at *
  simp only [U54, rowE, hm, ho3, seval, bA]
  refine callS c1 rfl ?_
  simp only [U54, hb, f1, ldB1, seval, bA]
  refine callI hone ?_
  simp only [U54, hs, f1, ldB1, hm, ho3, seval, bA]
  refine callS c2 (hfl _ _) ?_
  simp only [U54, f1, ldB1, seval, bA]
  refine callI hend ?_
  simp only [U54, hm, ho3, seval, bA]
  refine callS c3 (hfl _ _) ?_
  simp only [U54, seval, bA]
  refine callI (concat_spec [partsS l 0 e.fr, [e], partsS l (endE e) 16777216] (by simp) (by simpa using hcl)) ?_
  simp only [U54, List.flatten_cons, List.flatten_nil, List.append_nil, seval, bA]
  refine callI (tidy_spec (partsS l 0 e.fr ++ ([e] ++ partsS l (endE e) 16777216)) (over_chain hok hs')) ?_
  simp only [U54, seval, bA]
  exact ⟨_, rfl, rfl, hS0⟩
theorem cutA_i {ob : List AObj} {v : PV} {m : Nat} {l : List Xt} {f n : Int} (ho : OwnL ob v m l) (hok : OkL l) (hs' : SpanP f n) :
  ICall Tryz.prog 60 [v, .int .i64 f, .int .i64 n] ob fun r ob' => r = okR (cutS l f n) ∧ Same ob ob' (fun _ => False) := by
 have hs := spanS_iff.2 hs'
 have hb := okB_ok.2 hok
 have hlen := ok_len hok
 have hcl := chain_len0 (cut_chain hok hs')
 have e1 : IntKind.i64.wrap (f + n) = f + n := by obtain ⟨a, b, c, d⟩ := hs'; exact wrapI (by omega) (by omega)
 have c1 := check_spec l (by omega)
 have c2 := parts_spec l 0 f (chain_one hok.1) hlen
 have c3 := parts_spec l (f + n) 16777216 (chain_one hok.1) hlen
 refine icall_dr Tryz.func60 E60.h ?_
 rcases ho with ⟨rfl, rfl⟩ | ⟨rfl, hm⟩
 ·simp only [U60, seval, bA]
  refine callI (PCall.nzA (args' := [.nils]) c1 rfl) ?_
  simp only [U60, hb, seval, bA]
  refine callI (span_spec f n) ?_
  simp only [U60, hs, seval, bA]
  refine callI (PCall.nzA (args' := [.nils, .int .i64 0, .int .i64 f]) c2 rfl) ?_
  simp only [U60, e1, seval, bA]
  refine callI (PCall.nzA (args' := [.nils, .int .i64 (f + n), .int .i64 16777216]) c3 rfl) ?_
  simp only [U60, e1, seval, bA]
  refine callI (concat_spec [partsS [] 0 f, partsS [] (f + n) 16777216] (by simp) (by simpa using hcl)) ?_
  simp only [U60, List.flatten_cons, List.flatten_nil, List.append_nil, seval, bA]
  refine callI (tidy_spec (partsS [] 0 f ++ partsS [] (f + n) 16777216) (cut_chain hok hs')) ?_
  simp only [U60, seval, bA]
  exact ⟨_, rfl, rfl, Same.refl _ _⟩
 ·have ho3 : rowsO (some (AObj.list 4 (l.map rowE))) 0 l.length = some (l.map rowE) := by simp [rowsO]
  have hfl : ∀ a b, PV.flatR (.own 4 ((partsS l a b).map rowE)) = true := fun a b => by rw [flatR_own]; simp [flatL, PV.flat, rowE]
  simp only [U60, hm, ho3, seval, bA]
  refine callS c1 rfl ?_
  simp only [U60, hb, seval, bA]
  refine callI (span_spec f n) ?_
  simp only [U60, hs, hm, ho3, seval, bA]
  refine callS c2 (hfl _ _) ?_
  simp only [U60, e1, hm, ho3, seval, bA]
  refine callS c3 (hfl _ _) ?_
  simp only [U60, e1, seval, bA]
  refine callI (concat_spec [partsS l 0 f, partsS l (f + n) 16777216] (by simp) (by simpa using hcl)) ?_
  simp only [U60, List.flatten_cons, List.flatten_nil, List.append_nil, seval, bA]
  refine callI (tidy_spec (partsS l 0 f ++ partsS l (f + n) 16777216) (cut_chain hok hs')) ?_
  simp only [U60, seval, bA]
  exact ⟨_, rfl, rfl, Same.refl _ _⟩
theorem cut0_i {ob : List AObj} {f n : Int} : ICall Tryz.prog 60 [.slc [], .int .i64 f, .int .i64 n] ob fun r ob' => r = (if SpanP f n then okR (cutS [] f n) else errR) ∧ ob' = ob := by
 have hok : OkL [] := ⟨trivial, trivial⟩
 have hb : okB [] = true := rfl
 have c1 := check_spec [] (by simp)
 refine icall_dr Tryz.func60 E60.h ?_
 simp only [List.map_nil] at c1
 simp only [U60, seval, bA]
 refine callI c1 ?_
 simp only [U60, hb, seval, bA]
 refine callI (span_spec f n) ?_
 by_cases hs' : SpanP f n
 ·have hs := spanS_iff.2 hs'
  have hcl := chain_len0 (cut_chain hok hs')
  have e1 : IntKind.i64.wrap (f + n) = f + n := by obtain ⟨a, b, c, d⟩ := hs'; exact wrapI (by omega) (by omega)
  have c2 := parts_spec [] 0 f (fun _ h => by cases h) (by simp)
  have c3 := parts_spec [] (f + n) 16777216 (fun _ h => by cases h) (by simp)
  rw [if_pos hs']
  simp only [U60, hs, seval, bA]
  refine callI c2 ?_
  simp only [U60, e1, seval, bA]
  refine callI c3 ?_
  simp only [U60, e1, seval, bA]
  refine callI (concat_spec [partsS [] 0 f, partsS [] (f + n) 16777216] (by simp) (by simpa using hcl)) ?_
  simp only [U60, List.flatten_cons, List.flatten_nil, List.append_nil, seval, bA]
  refine callI (tidy_spec (partsS [] 0 f ++ partsS [] (f + n) 16777216) (cut_chain hok hs')) ?_
  simp only [U60, seval, bA]
  exact ⟨_, rfl, rfl⟩
 ·have hs : spanS f n = false := by
   cases h : spanS f n with
   | false => rfl
   | true => exact absurd (spanS_iff.1 h) hs'
  rw [if_neg hs']
  simp only [U60, hs, seval, bA]
  exact ⟨_, rfl, rfl⟩
theorem tover_i [Fr] {ob : List AObj} {t : Nat} {l : List Xt} {fp : List Nat} {e : Xt} (hT : TreeAt ob t l fp) (hl : OkL l) :
  ICall Tryz.prog 18 [.ref t 0, pE e] ob fun r ob' => r = .int .i64 (errO e) ∧ TreeR ob t fp (overT l e) ob' := by
 have htl := hT.lt t (by simp)
 refine icall_dr Tryz.func18 E18.h ?_
 have f1 := app0 ob (AObj.box (rowE e))
 have hS0 : Same ob (ob ++ [AObj.box (rowE e)]) (fun _ => False) := Same.app _ _ _
 have hT0 := hT.same hS0 (fun _ _ h => h)
 have hl0 : (ob ++ [AObj.box (rowE e)]).length = ob.length + 1 := by simp
 simp only [rowE] at f1 hS0 hT0 hl0
 simp only [U18, rowE, seval, bA]
 generalize ob ++ [AObj.box [.int .i64 e.fr, .int .i64 e.n, .int .i64 e.kd, .int .i64 e.at_]] = ob1 at *
 have hone := one_spec e
 simp only [pE, rowE] at hone
 simp only [U18, f1, ldB1, seval, bA]
 refine callI hone ?_
 by_cases he : OneP e
 ·have d := decide_eq_true he
  have w : IntKind.i64.wrap (e.fr + e.n) = endE e := by rw [wrapI (by have := he.1; have := he.2.1; omega) (by have := he.2.2.2.1; omega)]; rfl
  simp only [U18, d, f1, ldB1, w, seval, bA]
  refine callM (near_i hT0 hl.1 (f := e.fr) (u := endE e) ⟨he.1, he.2.2.1⟩ (by have := he.2.2.2.1; simp only [endE]; omega)) ?_
  rintro r ob2 ⟨m, ho, hm, hS2⟩
  have f2 := hS2.get f1 (fun h => h)
  obtain ⟨hokn, hov⟩ := over_near hl he
  have hT2 := hT0.same hS2 (fun _ _ h => h)
  have hlt := hT.lt
  have hchg := chg_over hl he
  have hft : e.fr ≤ endE e := by have := he.2.1; simp only [endE]; omega
  have hspl := near_split hft hl.1
  generalize hWe : nearS l e.fr (endE e) = W at *
  rw [hspl] at hT2
  have hfin : errO e = 0 := by simp [errO, he]
  have hfi2 : overT l e = befS l e.fr ++ (overS W e ++ behS l (endE e)) := by rw [← hov]; simp [overT, he]
  rw [hfin, hfi2]
  have hS12 : Same ob ob2 (· ∈ t :: fp) := (hS0.mono fun _ h => h.elim).trans (hS2.mono fun _ h => h.elim)
  have hA := overA_i ho hokn he
  simp only [pE, rowE] at hA
  have hbnd : W.length ≤ 16777216 ∧ (overS W e).length ≤ 16777216 := ⟨ok_len hokn, ok_len (over_ok hokn he)⟩
  have key : ∀ ob3, Same ob2 ob3 (fun _ => False) → ICall Tryz.prog 55 [.ref t 0, r, .slc ((overS W e).map rowE)] ob3 fun _ ob' => TreeR ob t fp (befS l e.fr ++ (overS W e ++ behS l (endE e))) ob' := fun ob3 hS3 =>
   callM (change_i (hT2.same hS3 (fun _ _ h => h)) hchg (ho.same hS3 (fun h => h)) (show m ∉ t :: fp from fun hh => by have := hlt m hh; omega) hbnd.1 hbnd.2) fun r ob' hR => hR.trans htl (hS12.trans (hS3.mono fun _ h => h.elim)) (fun i hi => .inl hi)
  simp only [U18, f2, ldB1, seval, bA]
  refine callM hA ?_
  rintro r' ob3 ⟨rfl, hS3⟩
  simp only [U18, okR, seval, bA]
  refine callM (key ob3 hS3) ?_
  intro r'' ob4 hR
  simp only [U18, seval, bA]
  exact ⟨_, rfl, rfl, hR⟩
 ·have d := decide_eq_false he
  have hfin : errO e = 1 := by simp [errO, he]
  have hfi2 : overT l e = l := by simp [overT, he]
  rw [hfin, hfi2]
  simp only [U18, d, seval, bA]
  exact ⟨_, rfl, rfl, fp, hT0, fun i hi => .inl hi, hS0.mono fun _ h => h.elim⟩
theorem tcut_i [Fr] {ob : List AObj} {t : Nat} {l : List Xt} {fp : List Nat} {f n : Int} (hT : TreeAt ob t l fp) (hl : OkL l) :
  ICall Tryz.prog 23 [.ref t 0, .int .i64 f, .int .i64 n] ob fun r ob' => r = .int .i64 (errC f n) ∧ TreeR ob t fp (cutT l f n) ob' := by
 have htl := hT.lt t (by simp)
 refine icall_dr Tryz.func23 E23.h ?_
 simp only [U23, seval, bA]
 refine callM cut0_i ?_
 rintro r ob1 ⟨rfl, hob⟩
 rw [hob]; clear hob ob1
 by_cases hs : SpanP f n
 ·have w : IntKind.i64.wrap (f + n) = f + n := wrapI (by have := hs.1; have := hs.2.1; omega) (by have := hs.2.2.2; omega)
  rw [if_pos hs]
  simp only [U23, okR, w, seval, bA]
  refine callM (near_i hT hl.1 (f := f) (u := f + n) ⟨hs.1, hs.2.2.1⟩ (by have := hs.2.2.2; omega)) ?_
  rintro r ob2 ⟨m, ho, hm, hS2⟩
  obtain ⟨hokn, hov⟩ := cut_near hl hs
  have hT2 := hT.same hS2 (fun _ _ h => h)
  have hlt := hT.lt
  have hchg := chg_cut hl hs
  have hspl := near_split (t := f + n) (f := f) (by have := hs.2.1; omega) hl.1
  generalize hWe : nearS l f (f + n) = W at *
  rw [hspl] at hT2
  have hfin : errC f n = 0 := by simp [errC, hs]
  have hfi2 : cutT l f n = befS l f ++ (cutS W f n ++ behS l (f + n)) := by rw [← hov]; simp [cutT, hs]
  rw [hfin, hfi2]
  have hS12 : Same ob ob2 (· ∈ t :: fp) := hS2.mono fun _ h => h.elim
  have hA := cutA_i ho hokn hs
  have hbnd : W.length ≤ 16777216 ∧ (cutS W f n).length ≤ 16777216 := ⟨ok_len hokn, ok_len (cut_ok hokn hs)⟩
  have key : ∀ ob3, Same ob2 ob3 (fun _ => False) → ICall Tryz.prog 55 [.ref t 0, r, .slc ((cutS W f n).map rowE)] ob3 fun _ ob' => TreeR ob t fp (befS l f ++ (cutS W f n ++ behS l (f + n))) ob' := fun ob3 hS3 =>
   callM (change_i (hT2.same hS3 (fun _ _ h => h)) hchg (ho.same hS3 (fun h => h)) (show m ∉ t :: fp from fun hh => by have := hlt m hh; omega) hbnd.1 hbnd.2) fun r ob' hR => hR.trans htl (hS12.trans (hS3.mono fun _ h => h.elim)) (fun i hi => .inl hi)
  simp only [U23, seval, bA]
  refine callM hA ?_
  rintro r' ob3 ⟨rfl, hS3⟩
  simp only [U23, okR, seval, bA]
  refine callM (key ob3 hS3) ?_
  intro r'' ob4 hR
  simp only [U23, seval, bA]
  exact ⟨_, rfl, rfl, hR⟩
 ·rw [if_neg hs]
  have hfin : errC f n = 1 := by simp [errC, hs]
  have hfi2 : cutT l f n = l := by simp [cutT, hs]
  rw [hfin, hfi2]
  simp only [U23, errR, seval, bA]
  exact ⟨_, rfl, rfl, fp, hT, fun i hi => .inl hi, Same.refl _ _⟩
theorem tnew_i [Fr] (ob : List AObj) : ICall Tryz.prog 17 [] ob fun r ob' => r = .ref ob.length 0 ∧ TreeAt ob' ob.length [] [] ∧ Same ob ob' (fun _ => False) := by
 refine icall_dr Tryz.func17 E17.h ?_
 simp only [U17, seval, bA]
 exact ⟨_, rfl, rfl, ⟨⟨_, app0 _ _, .nil⟩, by simp⟩, Same.app _ _ _⟩
open Go.RowKit Ar
structure HiAt [Fr] (ob : List AObj) (t : Nat) (l : List Xt) (fp : List Nat) (hi : Nat) : Prop where
 ex : (ob[t]? = some (.box [.nili]) ∧ hi = 0 ∧ l = [] ∧ fp = []) ∨ ∃ (h : Nat) (k : Kd), ob[t]? = some (.box [nodeV h k]) ∧ hi = h + 1 ∧ Node ob h k ∧ 1 ≤ k.s ∧ (h ≠ 0 → 2 ≤ k.s) ∧ k.s ≤ 8 ∧ l = k.l ∧ fp = k.fp
 no : t ∉ fp
theorem TreeAt.hi [Fr] {ob : List AObj} {t : Nat} {l : List Xt} {fp : List Nat} (h : TreeAt ob t l fp) : ∃ hi, HiAt ob t l fp hi := by
 obtain ⟨v, h1, h2⟩ := h.ex
 have hno := h.no
 cases h2 with
 | nil => exact ⟨0, .inl ⟨h1, rfl, rfl, rfl⟩, hno⟩
 | node j k a b c d => exact ⟨j + 1, .inr ⟨j, k, h1, rfl, a, b, c, d, rfl, rfl⟩, hno⟩
theorem HiAt.tree [Fr] {ob : List AObj} {t : Nat} {l : List Xt} {fp : List Nat} {hi : Nat} (h : HiAt ob t l fp hi) : TreeAt ob t l fp := by
 have hno := h.no
 rcases h.ex with ⟨h1, _, rfl, rfl⟩ | ⟨j, k, h1, _, a, b, c, d, rfl, rfl⟩
 ·exact ⟨⟨_, h1, .nil⟩, hno⟩
 ·exact ⟨⟨_, h1, .node j k a b c d⟩, hno⟩
theorem HiAt.same [Fr] {ob ob' : List AObj} {T : Nat → Prop} {t : Nat} {l : List Xt} {fp : List Nat} {hi : Nat} (h : HiAt ob t l fp hi) (hS : Same ob ob' T) (hT : ∀ i ∈ t :: fp, ¬ T i) : HiAt ob' t l fp hi := by
 refine ⟨?_, h.no⟩
 have ht := hT t (by simp)
 rcases h.ex with ⟨h1, h2⟩ | ⟨j, k, h1, h2, a, b, c, d, rfl, rfl⟩
 ·exact .inl ⟨hS.get h1 ht, h2⟩
 ·exact .inr ⟨j, k, hS.get h1 ht, h2, a.same hS fun i hi => hT i (by simp [hi]), b, c, d, rfl, rfl⟩
def hiS : Nat → Kd → PV
 | 0, _ => .nilp
 | _ + 1, k => .ref k.p 0
def hiB : Nat → Bool
 | 0 => false
 | _ + 1 => true
theorem height_i [Fr] {ob : List AObj} {t : Nat} {l : List Xt} {fp : List Nat} {hi : Nat} (hT : HiAt ob t l fp hi) (h9 : hi ≤ 1000) : ICall Tryz.prog 20 [.ref t 0] ob (IsR (.int .i64 (hi : Int)) ob) := by
 refine icall_dr Tryz.func20 E20.h ?_
 rcases hT.ex with ⟨hv, rfl, _⟩ | ⟨h, k, hv, rfl, hN, h1, _, h8, _⟩
 ·simp only [U20, hv, ldB1, seval, bA]
  exact ⟨_, rfl, isR rfl⟩
 ·have key : ∀ f : Nat → PV, f 3 = .int .i64 1 → f 4 = hiS h k → f 5 = .bool (hiB h) → AWP Tryz.prog ob.length (.loop [3, 4, 5] 1000000000 (pc E20.a 15)) (kblk 0 (kseq (AWP Tryz.prog ob.length (pc E20.a 20) (AEnd [.t 2] (IsR (.int .i64 ((h + 1 : Nat) : Int)) ob))) (AEnd [.t 2] (IsR (.int .i64 ((h + 1 : Nat) : Int)) ob)))) ⟨f, ob⟩ := by
   intro f f3 f4 f5
   refine loopF (fun x : Nat × Nat × Kd => ⟨ofL [(3, .int .i64 (x.1 : Int)), (4, hiS x.2.1 x.2.2), (5, .bool (hiB x.2.1))], ob⟩) (fun x => x.1 + x.2.1 = h + 1 ∧ Node ob x.2.1 x.2.2 ∧ 1 ≤ x.2.2.s) (fun x => x.2.1) (1, h, k) ?_ ⟨by simp only; omega, hN, h1⟩ ?_
   ·simp only [keepB_a, keepR_cons, keepR_nil, f3, f4, f5]
    try rfl
   ·rintro ⟨j, h', k'⟩ ⟨hj, hN', hs'⟩
    simp only at hj hN' hs'
    cases h' with
    | zero =>
     simp only [U20, hiS, hiB, seval, bA]
     have : j = h + 1 := by omega
     subst this
     exact ⟨_, rfl, isR rfl⟩
    | succ h' =>
     obtain ⟨q, off, c, ks, hI, hk⟩ := hN'
     obtain ⟨a, hb, _⟩ := hI.bx
     have hsz := hI.sz
     have hA := hI.ar
     rw [hsz] at hA hb
     have hlen : 0 < ks.length := by omega
     have d : decide (0 < ks.length) = true := decide_eq_true hlen
     have hld := ldK hA (i := 0) (x := nodeV h' ks[0]) (by simp [hlen])
     simp only [Nat.zero_mul, Nat.add_zero] at hld
     have hx := hk ks[0] (List.getElem_mem hlen)
     have e1 : IntKind.i64.wrap ((j : Int) + 1) = ((j + 1 : Nat) : Int) := by rw [wrapI (by omega) (by omega)]; omega
     have fin : ∃ t : Nat × Nat × Kd, t = (j + 1, h', ks[0]) := ⟨_, rfl⟩
     cases h' with
     | zero =>
      rw [nodeV_0] at hld
      simp only [U20, hiS, hiB, hb, d, hld, e1, ldB1, seval, bA]
      exact ⟨(j + 1, 0, ks[0]), rfl, ⟨by simp only; omega, hx.1, by simp only; omega⟩, by simp only; omega⟩
     | succ h' =>
      rw [nodeV_s] at hld
      simp only [U20, hiS, hiB, hb, d, hld, e1, ldB1, seval, bA]
      exact ⟨(j + 1, h' + 1, ks[0]), rfl, ⟨by simp only; omega, hx.1, by simp only; omega⟩, by simp only; omega⟩
  cases h with
  | zero =>
   rw [nodeV_0] at hv
   simp only [U20, hv, ldB1, seval, bA]
   refine key _ ?_ ?_ ?_ <;> simp only [U20, hiS, hiB, seval, bA]
  | succ h =>
   rw [nodeV_s] at hv
   simp only [U20, hv, ldB1, seval, bA]
   refine key _ ?_ ?_ ?_ <;> simp only [U20, hiS, hiB, seval, bA]
theorem PO.frame [Fr] {ob ob' : List AObj} : ∀ {h : Nat} {k : Kd} {L : List NE}, PO ob h k L → (∀ i ∈ k.fp, ob'[i]? = ob[i]?) → PO ob' h k L
 | 0, k, L, hP, _ => hP
 | h + 1, k, L, ⟨q, off, c, ks, Ls, hI, hk, hl, hLs, e⟩, hf => by
  have hp : k.p ∈ k.fp := by rw [hI.fp]; simp
  have hq : q ∈ k.fp := by rw [hI.fp]; simp
  have hx : ∀ x ∈ ks, ∀ i ∈ x.fp, i ∈ k.fp := fun x hx i hi => by rw [hI.fp]; simp only [List.mem_cons, List.mem_flatMap]; exact .inr (.inr ⟨x, hx, hi⟩)
  obtain ⟨a, hb, whb⟩ := hI.bx
  exact ⟨q, off, c, ks, Ls, ⟨hI.fp, hI.nd, hI.sz, hI.fl, ⟨a, (hf _ hp).trans hb, whb⟩, hI.ar.keep (hf _ hq), hI.cb⟩, fun x hm => ⟨(hk x hm).1.frame fun i hi => hf i (hx x hm i hi), (hk x hm).2⟩, hl, fun i x Lx h1 h2 => (hLs i x Lx h1 h2).frame fun j hj => hf j (hx x (List.mem_of_getElem? h1) j hj), e⟩
theorem PO.fp [Fr] {ob : List AObj} : ∀ {h : Nat} {k : Kd} {L : List NE}, PO ob h k L → ∀ x ∈ L, ∀ i ∈ x.2.1.fp, i ∈ k.fp
 | 0, k, L, hP, x, hx, i, hi => by
  have hP : L = [(0, k, [])] := hP
  subst hP
  simp only [List.mem_singleton] at hx; subst hx; exact hi
 | h + 1, k, L, ⟨q, off, c, ks, Ls, hI, hk, hl, hLs, e⟩, x, hx, i, hi => by
  subst e
  rcases List.mem_append.1 hx with hx | hx
  ·obtain ⟨Lx, hLx, hx⟩ := List.mem_flatten.1 hx
   obtain ⟨j, hj, rfl⟩ := List.getElem_of_mem hLx
   have hj' : j < ks.length := by omega
   have := (hLs j ks[j] Ls[j] (List.getElem?_eq_getElem hj') (List.getElem?_eq_getElem hj)).fp x hx i hi
   rw [hI.fp]; simp only [List.mem_cons, List.mem_flatMap]; exact .inr (.inr ⟨_, List.getElem_mem hj', this⟩)
  ·simp only [List.mem_singleton] at hx; subst hx; exact hi
def NodsK [Fr] (ob : List AObj) (h : Nat) (k : Kd) : PV → List AObj → Prop := fun r ob' => ∃ L, PO ob' h k L ∧ SlB ob' 1 r L.length (L.map neV) ∧ (∀ q, OnB r q → ob.length ≤ q) ∧ Same ob ob' (fun _ => False) ∧ 3 * L.length ≤ k.l.length + 2
theorem nodes_i [Fr] {ob : List AObj} {t h : Nat} {k : Kd} (hv : ob[t]? = some (.box [nodeV h k])) (hN : Node ob h k) (h1 : 1 ≤ k.s) (h8 : k.s ≤ 8) (hl : k.l.length ≤ 16777216) : ICall Tryz.prog 58 [.ref t 0] ob (NodsK ob h k) := by
 refine icall_dr Tryz.func58 E58.h ?_
 have hS0 : Same ob (ob ++ [AObj.box [.nils]]) (fun _ => False) := Same.app _ _ _
 have f0 := app0 ob (AObj.box [.nils])
 have fv := app1 hv [AObj.box [.nils]]
 have hl0 : (ob ++ [AObj.box [.nils]]).length = ob.length + 1 := by simp
 have hN0 := hN.same hS0 (fun _ _ h => h)
 have hlt := hN.lt
 simp only [U58, fv, nodeV, seval, bA]
 simp only [nodeV] at fv
 generalize ob ++ [AObj.box [.nils]] = ob1 at *
 have hO : OutN ob1 ob.length [] ob1 := ⟨Same.refl _ _, _, f0, .inl ⟨rfl, rfl, rfl⟩, fun q hq => by obtain ⟨_, _, _, hq⟩ := hq; cases hq⟩
 have he := each_i h (L0 := []) hN0 h1 h8 (b := ob.length) (by omega) (fun hm => by have := hlt _ hm; omega) (by simpa using hl) hO
 simp only [nodeV] at he
 refine callM he ?_
 rintro r ob2 ⟨L, hP, hO2, _, h3⟩
 obtain ⟨v, f2, hv2, hq2⟩ := hO2.ex
 have hfin : Same ob ob2 (fun _ => False) := ⟨by have := hO2.s.1; omega, fun j hj _ => (hO2.s.2 j (by omega) (show ¬ j = ob.length by omega)).trans (hS0.2 j hj (fun h => h))⟩
 simp only [U58, f2, ldB1, seval, bA]
 exact ⟨_, rfl, L, hP.frame fun i hi => hO2.s.2 i (by have := hlt i hi; omega) (show ¬ i = ob.length by have := hlt i hi; omega), hv2, fun q hq => by have := hq2 q hq; omega, hfin, h3⟩
theorem nodes_0 [Fr] {ob : List AObj} {t : Nat} (hv : ob[t]? = some (.box [.nili])) : ICall Tryz.prog 58 [.ref t 0] ob fun r ob' => r = .nils ∧ Same ob ob' (fun _ => False) := by
 refine icall_dr Tryz.func58 E58.h ?_
 have f0 := app0 ob (AObj.box [.nils])
 have fv := app1 hv [AObj.box [.nils]]
 simp only [U58, fv, f0, ldB1, seval, bA]
 exact ⟨_, rfl, rfl, Same.app _ _ _⟩
open Go.RowKit Ar
abbrev frT : Fr := ⟨fun _ _ _ _ => True, fun _ _ _ => trivial⟩
def Rd (bl : List Bk) (x : Nat) (ob : List AObj) : Prop := ∃ (U : Nat → Prop) (N : Nat) (ops : Int) (P : List Mis) (pv vz : PV) (opn sq : Int), NandS U ob 16 N bl ops P ∧ TxOk bl ∧ ob[x]? = some (.box (cellsO N pv vz opn sq))
theorem Rd.same {bl : List Bk} {x : Nat} {ob ob' : List AObj} (h : Rd bl x ob) (hS : Same ob ob' (fun _ => False)) : Rd bl x ob' := by
 obtain ⟨U, N, ops, P, pv, vz, opn, sq, h1, h2, h3⟩ := h
 exact ⟨U, N, ops, P, pv, vz, opn, sq, h1.same hS (fun _ _ _ h => h), h2, hS.get h3 (fun h => h)⟩
theorem Rd.get {bl : List Bk} {x : Nat} {ob : List AObj} (h : Rd bl x ob) {i : Nat} (hi : i < 256) {kd : Int} {bo : List UInt8} (hp : pgB bl i = some (kd, bo)) : RCall Tryz.prog 26 [.agg [.ref x 0], .int .i64 (i : Int)] ob (.tup [.int .i64 kd, .str bo, .nili]) := by
 obtain ⟨U, N, ops, P, pv, vz, opn, sq, h1, h2, h3⟩ := h
 exact get_r h1 h2 h3 hi hp
theorem small_i {ob : List AObj} {r : Nat} {f : PV} {a top : Int} {n : Nat} {least : Int} (hr : ob[r]? = some (.box [f, .int .i64 top])) (h : a = top ∨ 4 ≤ n) (hl : least ≤ (n : Int)) : ICall Tryz.prog 105 [.ref r 0, .int .i64 a, .int .i64 (n : Int), .int .i64 least] ob (IsR (.bool false) ob) := by
 refine icall_dr Tryz.func105 E105.h ?_
 have hld : ldB (some (AObj.box [f, .int .i64 top])) 1 1 = some [.int .i64 top] := by simp [ldB]
 have d2 : decide ((n : Int) < least) = false := by rw [decide_eq_false_iff_not]; omega
 rcases Decidable.em (a = top) with h1 | h1
 ·have d : (a != top) = false := by simp [h1]
  simp only [U105, hr, hld, d, d2, seval, bA]
  exact ⟨_, rfl, isR rfl⟩
 ·have d : (a != top) = true := by simp [h1]
  have d3 : decide ((n : Int) < 4) = false := by rw [decide_eq_false_iff_not]; omega
  simp only [U105, hr, hld, d, d2, d3, seval, bA]
  exact ⟨_, rfl, isR rfl⟩
theorem ldG {α : Type} {g : α → List PV} {ob : List AObj} {e q off n c : Nat} {l : List α} (h : Arr ob e q off n c (l.map g).flatten) (hg : ∀ x, (g x).length = e) (hn : n = l.length) {i : Nat} (hi : i < l.length) : ldB ob[q]? (off + i * e) e = some (g l[i]) := by
 obtain ⟨cs, h1, h2, h3, h4⟩ := h
 have m1 := mul_le (e := e) h2
 have m2 := mul_le (e := e) (show i + 1 ≤ n by omega)
 rw [Nat.add_mul, Nat.one_mul] at m2
 rw [h1, ldB_box (by omega)]
 have hl : ∀ l : List α, (l.map g).flatten.length = l.length * e := fun l => by
  induction l with
  | nil => simp
  | cons x l ih => rw [List.map_cons, List.flatten_cons, List.length_append, ih, hg, List.length_cons, Nat.add_mul]; omega
 have e1 : (cs.drop (off + i * e)).take e = (((cs.drop off).take (n * e)).drop (i * e)).take e := by
  rw [List.drop_take, List.drop_drop, List.take_take, Nat.min_eq_left (by omega)]
 rw [e1, h4]
 have e2 : (l.map g).flatten = ((l.take i).map g).flatten ++ (g l[i] ++ ((l.drop (i + 1)).map g).flatten) := by
  rw [← List.flatten_cons, ← List.map_cons, ← List.drop_eq_getElem_cons hi, ← List.flatten_append, ← List.map_append, List.take_append_drop]
 rw [e2, List.drop_left' (by rw [hl, List.length_take, Nat.min_eq_left (by omega)]), List.take_left' (hg _)]
def RdSpec (h : Nat) : Prop := ∀ {bl : List Bk} {x : Nat} {ob : List AObj} {r : Nat} {a top : Int} {l : List Xt} {n : Nat}, Rd bl x ob → ob[r]? = some (.box [gFn x, .int .i64 top]) → Sto (pgB bl) h a l n → (a = top ∨ 4 ≤ n) → (h ≠ 0 → 2 ≤ n) → 1 ≤ n → h ≤ 1000 →
 ICall Tryz.prog 62 [.ref r 0, .int .i64 a, .int .i64 ((h + 1 : Nat) : Int)] ob fun rr ob' => ∃ k : Kd, rr = .tup [nodeV h k, .nili] ∧ @Node frT ob' h k ∧ k.l = l ∧ k.s = n ∧ (∀ i ∈ k.fp, ob.length ≤ i) ∧ Same ob ob' (fun _ => False)
theorem e3V : errV 3 = .ifc 36 (.int .i64 3) := rfl
theorem read_leaf : RdSpec 0 := by
 intro bl x ob r a top l n hR hr hS ht h2 h1 hh
 obtain ⟨hP, hn, i, rfl, hi, hp⟩ := hS
 subst hn
 have hlb := leafB_of hP
 refine icall_dr Tryz.func62 E62.h ?_
 have hld : ldB (some (AObj.box [gFn x, .int .i64 top])) 0 1 = some [gFn x] := by simp [ldB]
 have hw := fun o : List AObj => wrap_i o [114, 101, 97, 100] (i : Int) 3
 simp only [e3V] at hw
 simp only [U62, hr, hld, seval, bA]
 refine callM (ICall.ofR (hR.get hi hp)) ?_
 rintro rr ob' ⟨rfl, hob⟩
 rw [hob]; clear hob ob'
 simp only [U62, seval, bA]
 refine callM (hw ob) ?_
 rintro rr ob1 ⟨hex, _⟩
 have hS1 : Same ob ob1 (fun _ => False) := no_ex hex
 simp only [U62, seval, bA]
 refine callM (ReadLeaf_i hlb) ?_
 rintro rr2 ob2 ⟨q, off, c, rfl, hA, hc, hq, hS2⟩
 have hr2 := hS2.get (hS1.get hr (fun h => h)) (fun h => h)
 simp only [U62, seval, bA]
 refine callM (small_i (least := 1) hr2 ht (by omega)) ?_
 rintro rr3 ob3 ⟨rfl, hob⟩
 rw [hob]; clear hob ob3
 simp only [U62, seval, bA]
 letI := frT
 have hA3 := hA.keep (ob' := ob2 ++ [AObj.box [.int .i64 (i : Int), .asl q off l.length c]]) (List.getElem?_append_left hA.lt)
 have l1 := hS1.1
 have l2 := hS2.1
 have hql := hA.lt
 refine ⟨_, rfl, ⟨ob2.length, l, l.length, [ob2.length, q]⟩, rfl, ⟨q, off, c, ⟨rfl, by simp only [List.nodup_cons, List.mem_cons, List.not_mem_nil, or_false, not_false_eq_true, List.nodup_nil, and_true]; omega, rfl, ⟨(i : Int), app0 _ _, trivial⟩, hA3, hc⟩⟩, rfl, rfl, fun j hj => ?_, (hS1.trans hS2).trans (Same.app _ _ _)⟩
 simp only [List.mem_cons, List.not_mem_nil, or_false] at hj
 rcases hj with rfl | rfl <;> omega
theorem Same.out {a b c : List AObj} {U : Nat → Prop} {p : Nat} (h : Same a b U) (k : Same b c (· = p)) (hp : a.length ≤ p) : Same a c U :=
 ⟨Nat.le_trans h.1 k.1, fun j hj hn => (k.2 j (Nat.lt_of_lt_of_le hj h.1) (show ¬ j = p by omega)).trans (h.2 j hj hn)⟩
structure KidsI (O1 : List AObj) (h p : Nat) (a : Int) (kk : List Ks) (j : Nat) (v : PV) (ks : List Kd) (X : List AObj) : Prop where
 lj : j ≤ kk.length
 lk : ks.length = j
 pb : X[p]? = some (.box [.int .i64 a, v])
 sv : SlB X 1 v j (ks.map (nodeV h))
 qv : ∀ q, OnB v q → O1.length ≤ q ∧ q ∉ ks.flatMap (·.fp)
 sm : Same O1 X (· = p)
 kd : ∀ (i : Nat) (y : Kd) (z : Ks), ks[i]? = some y → kk[i]? = some z → @Node frT X h y ∧ y.l = z.l ∧ y.s = z.n
 nd : (ks.flatMap (·.fp)).Nodup
 gt : ∀ i ∈ ks.flatMap (·.fp), O1.length ≤ i ∧ i < X.length
theorem read_inner {h : Nat} (IH : RdSpec h) : RdSpec (h + 1) := by
 intro bl x ob r a top l n hR hr hS ht h2 h1 hh
 obtain ⟨kk, hkk, hn, hl, hkb, i, rfl, hi, hp⟩ := hS
 have hb := Lf.kidsB_iff.1 hkb
 have hb1 := hb.1
 have hb2 := hb.2.1
 rw [List.length_map] at hb1 hb2
 refine icall_dr Tryz.func62 E62.h ?_
 have hld : ldB (some (AObj.box [gFn x, .int .i64 top])) 0 1 = some [gFn x] := by simp [ldB]
 have hw := fun o : List AObj => wrap_i o [114, 101, 97, 100] (i : Int) 3
 simp only [e3V] at hw
 have dh : (((h + 1 + 1 : Nat) : Int) == 1) = false := by rw [beq_eq_false_iff_ne]; omega
 simp only [U62, hr, hld, seval, bA]
 refine callM (ICall.ofR (hR.get hi hp)) ?_
 rintro rr ob' ⟨rfl, hob⟩
 rw [hob]; clear hob ob'
 simp only [U62, seval, bA]
 refine callM (hw ob) ?_
 rintro rr ob1 ⟨hex, hbad⟩
 obtain ⟨o, rfl⟩ := hbad.some (by decide)
 have hS1 : Same ob ob1 (fun _ => False) := no_ex hex
 simp only [U62, dh, seval, bA]
 refine callM (ReadInner_i hkb) ?_
 rintro rr2 ob2 ⟨q, off, c, rfl, hA, hc, hq, hS2⟩
 rw [List.length_map] at hA
 have hS02 := hS1.trans hS2
 have hr2 := hS02.get hr (fun h => h)
 simp only [U62, List.length_map, seval, bA]
 refine callM (small_i (least := 2) (n := kk.length) hr2 (by rw [← hn]; exact ht) (by omega)) ?_
 rintro rr3 ob3 ⟨rfl, hob⟩
 rw [hob]; clear hob ob3
 simp only [U62, seval, bA]
 have hqp := hA.lt
 have hSO : Same ob (ob2 ++ [AObj.box [.int .i64 (i : Int), .nils]]) (fun _ => False) := hS02.trans (Same.app _ _ _)
 have hAO := hA.keep (ob' := ob2 ++ [AObj.box [.int .i64 (i : Int), .nils]]) (List.getElem?_append_left hqp)
 have hrO := hSO.get hr (fun h => h)
 have hpO := app0 ob2 (AObj.box [.int .i64 (i : Int), .nils])
 have hlO : (ob2 ++ [AObj.box [.int .i64 (i : Int), .nils]]).length = ob2.length + 1 := by simp
 have hpl : ob.length ≤ ob2.length := hS02.1
 have hrl := lt_ofN hr
 generalize ob2 ++ [AObj.box [.int .i64 (i : Int), .nils]] = O1 at *
 generalize ob2.length = p at *
 refine loopF (fun y : Nat × PV × List Kd × List AObj => ⟨ofL [(0, .ref r 0), (2, .int .i64 ((h + 1 + 1 : Nat) : Int)), (11, .ifc 144 (.ref o 0)), (16, .ref p 0), (87, .asl q off kk.length c), (88, .int .i64 (kk.length : Int)), (89, .int .i64 (y.1 : Int))], y.2.2.2⟩)
  (fun y => KidsI O1 h p (i : Int) kk y.1 y.2.1 y.2.2.1 y.2.2.2) (fun y => kk.length - y.1) (0, .nils, [], O1) ?_ ⟨Nat.zero_le _, rfl, hpO, .inl ⟨rfl, rfl, rfl⟩, (fun q hq => by obtain ⟨_, _, _, hq⟩ := hq; cases hq), Same.refl _ _, (fun i y z hy => by simp at hy), (by simp), (fun i hi => by simp at hi)⟩ ?_
 ·simp only [U62, seval, bA]
  all_goals rfl
 rintro ⟨j, v, ks, X⟩ hI
 have hj := hI.lj
 have hlk := hI.lk
 have hpb := hI.pb
 have hsm := hI.sm
 have hsv := hI.sv
 have hqv := hI.qv
 have hkd := hI.kd
 have hnd := hI.nd
 have hgt := hI.gt
 simp only at hj hlk hpb hsm hsv hqv hkd hnd hgt
 clear hI
 have hSX : Same ob X (fun _ => False) := hSO.out hsm hpl
 by_cases hlt : j < kk.length
 ·have d : decide ((j : Int) < (kk.length : Int)) = true := by simpa using hlt
  have d' : decide (j < kk.length) = true := decide_eq_true hlt
  have e1 : IntKind.i64.wrap ((j : Int) + 1) = ((j + 1 : Nat) : Int) := by rw [wrapI (by omega) (by omega)]; omega
  have e2 : IntKind.i64.wrap (((h + 1 + 1 : Nat) : Int) - 1) = ((h + 1 : Nat) : Int) := by rw [wrapI (by omega) (by omega)]; omega
  obtain ⟨z, hz⟩ : ∃ z, kk[j] = z := ⟨_, rfl⟩
  have hzg : kk[j]? = some z := by rw [List.getElem?_eq_getElem hlt, hz]
  obtain ⟨hzs, hz4, hz8⟩ := hkk z (List.mem_of_getElem? hzg)
  have hAX := hsm.arr hAO (by omega)
  have hlz := ldG hAX (fun _ => rfl) (by simp) (i := j) (by simpa using hlt)
  rw [List.getElem_map, hz] at hlz
  have g0 := app0 X
  have z0 := setA X
  have hS2' : Same X (X ++ [AObj.box (Lf.rowK (ksK z))]) (fun _ => False) := Same.app _ _ _
  have hS2O : Same ob (X ++ [AObj.box (Lf.rowK (ksK z))]) (fun _ => False) := hSX.trans hS2'
  have f1 := g0 (AObj.box (Lf.rowK (ksK z)))
  have hl2 : (X ++ [AObj.box (Lf.rowK (ksK z))]).length = X.length + 1 := by simp
  have hIH := IH (hR.same hS2O) (hS2O.get hr (fun h => h)) hzs (.inr hz4) (fun _ => by omega) (by omega) (by omega)
  have hldk1 : ldB (some (AObj.box (Lf.rowK (ksK z)))) 1 1 = some [.int .i64 z.a] := by simp [ldB, Lf.rowK, ksK]
  have hldk0 : ldB (some (AObj.box (Lf.rowK (ksK z)))) 0 1 = some [.int .i64 (keyX z.l)] := by simp [ldB, Lf.rowK, ksK]
  simp only [Lf.rowK, ksK] at hlz f1 hS2' hl2 hIH hldk1 hldk0 hS2O
  simp only [U62, d, d', hlz, g0, z0, e2, hldk1, seval, bA]
  generalize X ++ [AObj.box [.int .i64 (keyX z.l), .int .i64 z.a]] = X2 at *
  refine callM hIH ?_
  rintro rr X3 ⟨k', rfl, hk1, hk2, hk3, hk4, hS3⟩
  have f3 := hS3.get f1 (fun h => h)
  have p3 := hS3.get (hS2'.get hpb (fun h => h)) (fun h => h)
  have dk : (keyX k'.l != keyX z.l) = false := by rw [hk2]; simp
  simp only [U62, nodeV, seval, bA]
  refine callJ (mF h) (@first_r frT h _ _ hk1 (by omega)) ?_
  simp only [U62, f3, hldk0, dk, p3, ldB1, seval, bA]
  have hv4 := ((hsv.same hS2' (fun _ _ h => h)).same hS3 (fun _ _ h => h)).same (Same.app X3 [AObj.box [nodeV h k']] (fun _ => False)) (fun _ _ h => h)
  have hsrc : arrSrc (X3 ++ [AObj.box [nodeV h k']]) 1 (.asl X3.length 0 1 1) = some [nodeV h k'] := by
   rw [arrSrc_asl (app0 _ _) (by simp)]; rfl
  have hl4 : (X3 ++ [AObj.box [nodeV h k']]).length = X3.length + 1 := by simp
  have hS4 : Same X3 (X3 ++ [AObj.box [nodeV h k']]) (fun _ => False) := Same.app _ _ _
  simp only [nodeV] at hv4 hsrc hl4 hS4
  refine appB hv4 rfl hsrc rfl rfl (by omega) ?_
  generalize X3 ++ [AObj.box [.ifc (tyN h) (.ref k'.p 0)]] = X4 at *
  intro q5 off5 c5 X5 hA5 hq5 hS5 hc5
  have l3 := hS3.1
  have l5 := hS5.1
  have lsm := hsm.1
  have hq6 : O1.length ≤ q5 ∧ q5 ∉ ks.flatMap (·.fp) ∧ (q5 < X.length ∨ X4.length ≤ q5) := by
   rcases hq5 with hq5 | hq5
   ·have := hqv q5 hq5
    exact ⟨this.1, this.2, .inl (onB_lt hsv hq5)⟩
   ·exact ⟨by omega, fun hm => by have := hgt q5 hm; omega, .inr hq5⟩
  have p5 := hS5.get (hS4.get p3 (fun h => h)) (show ¬ p = q5 by have := hq6.1; omega)
  have hk1l := @Node.lt frT _ _ _ hk1
  simp only [U62, p5, e1, nodeV, seval, bA]
  obtain ⟨b6, hb6⟩ : ∃ b6, AObj.box [.int .i64 (i : Int), .asl q5 off5 (j + 1) c5] = b6 := ⟨_, rfl⟩
  have hfr : ∀ m, m < X3.length → m ≠ q5 → m ≠ p → (X5.set p b6)[m]? = X3[m]? := fun m h1 h2 h3 => by
   rw [List.getElem?_set_ne (fun e => h3 e.symm), hS5.2 m (by omega) h2, hS4.2 m h1 (fun h => h)]
  have hX3 : ∀ m, m < X.length → X3[m]? = X[m]? := fun m hm => (hS3.2 m (by omega) (fun h => h)).trans (hS2'.2 m hm (fun h => h))
  have hk4' : ∀ m ∈ k'.fp, X2.length ≤ m ∧ m < X3.length ∧ m ≠ q5 ∧ m ≠ p := fun m hm => by
   have h1 := hk4 m hm
   have h2 := hk1l m hm
   refine ⟨h1, h2, ?_, by omega⟩
   rcases hq6.2.2 with h3 | h3 <;> omega
  have hks : ∀ m ∈ ks.flatMap (·.fp), m < X.length ∧ m ≠ q5 ∧ m ≠ p := fun m hm => by
   have h1 := hgt m hm
   refine ⟨h1.2, ?_, by omega⟩
   rintro rfl; exact hq6.2.1 hm
  have h6l : (X5.set p b6).length = X5.length := by rw [List.length_set]
  rw [hb6]
  refine ⟨(j + 1, .asl q5 off5 (j + 1) c5, ks ++ [k'], X5.set p b6), rfl, ⟨hlt, by simp [hlk], ?_, .inr ⟨q5, off5, c5, rfl, ?_, hc5⟩, fun m hm => ?_, ⟨by rw [h6l]; omega, fun m h1 h2 => ?_⟩, fun m y w hy hw => ?_, ?_, fun m hm => ?_⟩, by simp only; omega⟩
  ·rw [← hb6]; exact set_get p5
  ·rw [List.map_append]
   exact hA5.keep (List.getElem?_set_ne (by have := hq6.1; omega))
  ·obtain ⟨_, _, _, hm⟩ := hm
   injection hm with hm
   subst hm
   refine ⟨hq6.1, fun hm => ?_⟩
   rw [List.flatMap_append, List.mem_append] at hm
   rcases hm with hm | hm
   ·exact hq6.2.1 hm
   ·simp only [List.flatMap_cons, List.flatMap_nil, List.append_nil] at hm
    exact (hk4' _ hm).2.2.1 rfl
  ·have h3 : m ≠ q5 := by have := hq6.1; omega
   rw [hfr m (by omega) h3 h2, hX3 m (by omega)]
   exact hsm.2 m h1 h2
  ·by_cases hmj : m < ks.length
   ·rw [List.getElem?_append_left hmj] at hy
    have h1 := hkd m y w hy hw
    refine ⟨@Node.frame frT _ _ _ _ h1.1 fun i hi => ?_, h1.2⟩
    have h2 := hks i (List.mem_flatMap.2 ⟨y, List.mem_of_getElem? hy, hi⟩)
    rw [hfr i (by omega) h2.2.1 h2.2.2, hX3 i h2.1]
   ·have hmj : m = j := by
     have := (List.getElem?_eq_some_iff.1 hy).1
     simp only [List.length_append, List.length_cons, List.length_nil] at this; omega
    subst hmj
    rw [List.getElem?_append_right (by omega), hlk, Nat.sub_self] at hy
    simp only [List.getElem?_cons_zero, Option.some.injEq] at hy
    subst hy
    rw [hzg] at hw; cases hw
    exact ⟨@Node.frame frT _ _ _ _ hk1 fun i hi => hfr i (hk4' i hi).2.1 (hk4' i hi).2.2.1 (hk4' i hi).2.2.2, hk2, hk3⟩
  ·rw [List.flatMap_append, List.nodup_append]
   simp only [List.flatMap_cons, List.flatMap_nil, List.append_nil]
   refine ⟨hnd, @Node.nd frT _ _ _ hk1, fun a ha b hb e => ?_⟩
   have h1 := (hks a ha).1
   have h2 := (hk4' b hb).1
   omega
  ·rw [List.flatMap_append, List.mem_append] at hm
   simp only [List.flatMap_cons, List.flatMap_nil, List.append_nil] at hm
   rcases hm with hm | hm
   ·have h1 := hgt m hm; exact ⟨h1.1, by rw [h6l]; omega⟩
   ·have h1 := hk4' m hm; exact ⟨by omega, by rw [h6l]; omega⟩
 ·have d : decide ((j : Int) < (kk.length : Int)) = false := by simpa using hlt
  have hje : j = kk.length := by omega
  subst hje
  simp only [U62, d, seval, bA]
  letI := frT
  rcases hsv with ⟨h0, _⟩ | ⟨q5, off5, c5, hv5, hA5, hc5⟩
  ·omega
  have hq5 := hqv q5 ⟨off5, _, c5, hv5⟩
  rw [hv5] at hpb
  have hflat : ∀ (ks : List Kd) (kk : List Ks), ks.length = kk.length → (∀ (i : Nat) (y : Kd) (z : Ks), ks[i]? = some y → kk[i]? = some z → y.l = z.l) → ks.flatMap (fun x => x.l) = kk.flatMap (fun x => x.l) := by
   intro ks
   induction ks with
   | nil => intro kk hl _; cases kk with
    | nil => rfl
    | cons z kk => simp at hl
   | cons y ks ih =>
    intro kk hl hh
    cases kk with
    | nil => simp at hl
    | cons z kk => rw [List.flatMap_cons, List.flatMap_cons, hh 0 y z rfl rfl, ih kk (by simpa using hl) fun i y z h1 h2 => hh (i + 1) y z h1 h2]
  refine ⟨_, rfl, ⟨p, l, n, p :: q5 :: ks.flatMap (fun x => x.fp)⟩, rfl, ⟨q5, off5, c5, ks, ⟨rfl, ?_, by simp only; omega, ?_, ⟨(i : Int), by rw [hn]; exact hpb, trivial⟩, by rw [hn]; exact hA5, hc5⟩, fun y hy => ?_⟩, rfl, rfl, fun m hm => ?_, hSX⟩
  ·refine List.nodup_cons.2 ⟨fun hm => ?_, List.nodup_cons.2 ⟨hq5.2, hnd⟩⟩
   rcases List.mem_cons.1 hm with hm | hm
   ·omega
   ·have := hgt p hm; omega
  ·rw [hl]; exact (hflat ks kk hlk fun i y z h1 h2 => (hkd i y z h1 h2).2.1).symm
  ·obtain ⟨m, hm, rfl⟩ := List.getElem_of_mem hy
   have hmk : m < kk.length := by omega
   have h1 := hkd m _ _ (List.getElem?_eq_getElem hm) (List.getElem?_eq_getElem hmk)
   have h2 := (hkk kk[m] (List.getElem_mem hmk)).2
   exact ⟨h1.1, by rw [h1.2.2]; exact h2⟩
  ·rcases List.mem_cons.1 hm with hm | hm
   ·omega
   rcases List.mem_cons.1 hm with hm | hm
   ·omega
   ·have := hgt m hm; omega
theorem read_i' : ∀ h, RdSpec h
 | 0 => read_leaf
 | h + 1 => read_inner (read_i' h)
open Go.RowKit Ar
theorem loc_to {F F' : Fr} {ob ob' : List AObj} {x : NE} (h : @Loc1 F ob x) (hs : 1 ≤ x.2.1.s)
  (hp : ∀ (a : Int) (q off c : Nat), ob[x.2.1.p]? = some (.box [.int .i64 a, .asl q off x.2.1.s c]) → F.W a x.1 x.2.1.l x.2.1.s → ∃ a' : Int, ob'[x.2.1.p]? = some (.box [.int .i64 a', .asl q off x.2.1.s c]) ∧ F'.W a' x.1 x.2.1.l x.2.1.s)
  (hq : ∀ (q e off c : Nat) (xs : List PV), q ∈ x.2.1.fp → Arr ob e q off x.2.1.s c xs → ((∃ y r, xs = .int .i64 y :: r ∧ e = 4) ∨ ∃ h y r, xs = nodeV h y :: r ∧ e = 1) → ob'[q]? = ob[q]?) : @Loc1 F' ob' x := by
 obtain ⟨hh, k, ks⟩ := x
 cases hh with
 | zero =>
  obtain ⟨e0, q, off, c, ⟨lfp, lnd, lsz, ⟨a, hb, hw⟩, lar, lcb⟩⟩ := h
  obtain ⟨a', hb', hw'⟩ := hp a q off c hb hw
  have hm : q ∈ k.fp := by rw [lfp]; simp
  refine ⟨e0, q, off, c, @LeafAt.mk F' ob' k q off c lfp lnd lsz ⟨a', hb', hw'⟩ (lar.keep (hq q 4 off c _ hm lar (.inl ?_))) lcb⟩
  have := lsz
  match hl : k.l with
  | [] => rw [hl] at this; simp only [List.length_nil] at this; simp only at hs; omega
  | e :: l => exact ⟨e.fr, _, rfl, rfl⟩
 | succ h0 =>
  obtain ⟨q, off, c, ⟨lfp, lnd, lsz, lfl, ⟨a, hb, hw⟩, lar, lcb⟩, h48⟩ := h
  obtain ⟨a', hb', hw'⟩ := hp a q off c hb hw
  have hm : q ∈ k.fp := by rw [lfp]; simp
  refine ⟨q, off, c, @InnerAt.mk F' ob' h0 k q off c ks lfp lnd lsz lfl ⟨a', hb', hw'⟩ (lar.keep (hq q 1 off c _ hm lar (.inr ?_))) lcb, h48⟩
  have := lsz
  cases ks with
  | nil => simp only [List.length_nil] at this; simp only at hs; omega
  | cons e l => exact ⟨h0, e, _, rfl, rfl⟩
theorem loc_bx {F : Fr} {ob : List AObj} {x : NE} (h : @Loc1 F ob x) : x.2.1.p ∈ x.2.1.fp ∧ ∃ q off c : Nat, ob[x.2.1.p]? = some (.box [.int .i64 (atOf ob x.2.1.p), .asl q off x.2.1.s c]) ∧ F.W (atOf ob x.2.1.p) x.1 x.2.1.l x.2.1.s := by
 obtain ⟨hh, k, ks⟩ := x
 cases hh with
 | zero =>
  obtain ⟨_, q, off, c, ⟨lfp, _, _, ⟨a, hb, hw⟩, _, _⟩⟩ := h
  rw [atOf_at hb]
  exact ⟨by rw [lfp]; simp, q, off, c, hb, hw⟩
 | succ h0 =>
  obtain ⟨q, off, c, ⟨lfp, _, _, _, ⟨a, hb, hw⟩, _, _⟩, _⟩ := h
  rw [atOf_at hb]
  exact ⟨by rw [lfp]; simp, q, off, c, hb, hw⟩
theorem flat_to {F F' : Fr} {ob ob' : List AObj} {L : List NE} (h : @Flat F ob L) (hx : ∀ x ∈ L, @Loc1 F ob x → @Loc1 F' ob' x) : @Flat F' ob' L := by
 obtain ⟨a, b, c, d⟩ := h
 exact @Flat.mk F' ob' L (fun x hx' => hx x hx' (a x hx')) b c d
theorem flat_same {pg pg' : Pgs} {ob ob' : List AObj} {L : List NE} {U : Nat → Prop} (h : @Flat (frP pg) ob L) (hpg : PgLe pg pg') (hS : Same ob ob' U) (hU : ∀ x ∈ L, ∀ i ∈ x.2.1.fp, ¬ U i) : @Flat (frP pg') ob' L := by
 have hok := @Flat.ok (frP pg) _ _ h
 exact flat_to h fun x hx hl => loc_to hl (hok x hx).2.1 (fun a q off c hb hw => ⟨a, hS.get hb (hU x hx _ (loc_bx hl).1), hw.elim .inl fun hw => .inr (hw.up hpg)⟩) fun q e off c xs hq hA _ => hS.2 q hA.lt (hU x hx q hq)
theorem nd_eq {L : List NE} (hn : (L.map fun x => x.2.1.p).Nodup) {x y : NE} (hx : x ∈ L) (hy : y ∈ L) (e : x.2.1.p = y.2.1.p) : x = y := by
 induction L with
 | nil => cases hx
 | cons z L ih =>
  rw [List.map_cons, List.nodup_cons] at hn
  rcases List.mem_cons.1 hx with hx | hx <;> rcases List.mem_cons.1 hy with hy | hy
  ·rw [hx, hy]
  ·exact absurd (List.mem_map.2 ⟨y, hy, by rw [← e, hx]⟩) hn.1
  ·exact absurd (List.mem_map.2 ⟨x, hx, by rw [e, hy]⟩) hn.1
  ·exact ih hn.2 hx hy
theorem flat_set {pg : Pgs} {ob : List AObj} {L : List NE} {x : NE} {a : Int} {q off c : Nat} (h : @Flat (frP pg) ob L) (hx : x ∈ L) (hb : ob[x.2.1.p]? = some (.box [.int .i64 (-1), .asl q off x.2.1.s c])) (hs : Sto pg x.1 a x.2.1.l x.2.1.s) : @Flat (frP pg) (ob.set x.2.1.p (.box [.int .i64 a, .asl q off x.2.1.s c])) L := by
 have hok := @Flat.ok (frP pg) _ _ h
 have hnd := @Flat.nd (frP pg) _ _ h
 refine flat_to h fun y hy hl => loc_to hl (hok y hy).2.1 (fun a' q' off' c' hb' hw => ?_) fun q' e off' c' xs hq hA hsh => ?_
 ·by_cases e : y.2.1.p = x.2.1.p
  ·have := nd_eq hnd hy hx e
   subst this
   rw [hb] at hb'; cases hb'
   exact ⟨a, set_get hb, .inr hs⟩
  ·exact ⟨a', by rw [List.getElem?_set_ne (fun h => e h.symm)]; exact hb', hw⟩
 ·have hn := (hok y hy).2.1
  have hne : q' ≠ x.2.1.p := by
   rintro rfl
   obtain ⟨cs, h1, h2, h3, h4⟩ := hA
   rw [hb] at h1; cases h1
   rcases hsh with ⟨z, r, e1, e2⟩ | ⟨hh, z, r, e1, e2⟩
   ·subst e2
    simp only [List.length_cons, List.length_nil] at h3; omega
   ·subst e2
    simp only [List.length_cons, List.length_nil] at h3
    have : off' = 0 ∨ off' = 1 := by omega
    obtain ⟨m, hm⟩ : ∃ m, y.2.1.s * 1 = m + 1 := ⟨y.2.1.s * 1 - 1, by omega⟩
    rw [hm, e1] at h4
    rcases this with e3 | e3 <;> rw [e3] at h4 <;> simp [nodeV] at h4
  rw [List.getElem?_set_ne (fun h => hne h.symm)]
def DiskS (T : Nat → Prop) (ob : List AObj) (s Sg N : Nat) (P : List Mis) (bl : List Bk) (cnt : Nat) : Prop := ∃ (stt : List Int) (opn ops : Int) (full bads : List Nat), Dk T ob s Sg N bl stt opn ops (cnt : Int) P ∧ DOk P bl stt opn ops cnt full bads
section
variable {T : Nat → Prop} {ob ob' : List AObj} {s Sg N cnt : Nat} {P : List Mis} {bl : List Bk}
theorem DiskS.same {U : Nat → Prop} (h : DiskS T ob s Sg N P bl cnt) (hS : Same ob ob' U) (hU : ∀ i, i < ob.length → T i → ¬ U i) : DiskS T ob' s Sg N P bl cnt := by
 obtain ⟨a, b, c, d, e, h1, h2⟩ := h
 exact ⟨a, b, c, d, e, h1.same hS hU, h2⟩
theorem DiskS.wide {U : Nat → Prop} (h : DiskS T ob s Sg N P bl cnt) (hU : ∀ i, i < ob.length → T i → U i) : DiskS U ob s Sg N P bl cnt := by
 obtain ⟨a, b, c, d, e, h1, h2⟩ := h
 exact ⟨a, b, c, d, e, h1.wide hU, h2⟩
def PutD (T : Nat → Prop) (ob : List AObj) (s Sg N : Nat) (P : List Mis) (bl : List Bk) (cnt : Nat) (kd : Int) (bo : List UInt8) : PV → List AObj → Prop := fun r ob' =>
 ∃ (i : Nat) (bl2 : List Bk), r = .tup [.int .i64 (i : Int), .nili] ∧ i < 256 ∧ DiskS T ob' s Sg N P bl2 (cnt + 1) ∧ PgLe (pgB bl) (pgB bl2) ∧ pgB bl2 i = some (kd, bo) ∧ Same ob ob' T
theorem put_d {kd ky : Int} {bo : List UInt8} (h : DiskS T ob s Sg N P bl cnt) (hT : ∀ i, ob.length ≤ i → T i) (hP : PlOk P) (hc : cnt < 200) (hk : 1 ≤ kd ∧ kd ≤ 4) (hy : 0 ≤ ky ∧ ky ≤ 4294967295) (hb : bo.length ≤ 100) :
  ICall Tryz.prog 22 [.agg [.ref s 0], .int .i64 kd, .int .i64 ky, .str bo] ob (PutD T ob s Sg N P bl cnt kd bo) := by
 obtain ⟨stt, opn, ops, full, bads, h1, h2⟩ := h
 refine callM (put_i' h1 hT h2 hP hc hk hy hb (by omega) (by omega)) ?_
 rintro r ob' ⟨i, bl2, stt2, opn2, ops2, full2, bads2, rfl, hi, g1, g2, g3, g4, g5⟩
 exact ⟨i, bl2, rfl, hi, ⟨_, _, _, _, _, g1, g2⟩, g3, g4, g5⟩
end
end Go.Proofs.YtdgpiobmncohjaaGreatDoor.Aw
