/-
 A tree is written.; A tree is read from pages.; The array's example.; How many extents there are behind laying over and cutting; how high a tree is. Plain Lean but for the last.; A tree that was written to an array is read from it: the statement's contract.
-/
import Derived.Test.YtdgpiobmncohjaaGreatDoorKbf
import Derived.Test.YtdgpiobmncohjaaGreatDoorKbc
import Derived.Test.YtdgpiobmncohjaaGreatDoorQa
import Derived.Test.YtdgpiobmncohjaaGreatDoorQb
import Derived.Test.YtdgpiobmncohjaaGreatDoorQc
import Derived.Test.YtdgpiobmncohjaaGreatDoorQp
import Derived.Test.YtdgpiobmncohjaaGreatDoorQl
import Derived.Test.YtdgpiobmncohjaaGreatDoorQn
import Derived.Test.YtdgpiobmncohjaaGreatDoorQs
import Derived.Test.YtdgpiobmncohjaaGreatDoorQr
import Derived.Test.YtdgpiobmncohjaaGreatDoorQw
import Derived.Test.YtdgpiobmncohjaaGreatDoorQt
import Derived.Test.YtdgpiobmncohjaaGreatDoorKbe
import Derived.Test.YtdgpiobmncohjaaGreatDoorKal
set_option linter.all false
set_option maxRecDepth 100000
namespace Go.Proofs.YtdgpiobmncohjaaGreatDoor.Aw
open Go.RowKit Ar
structure WI (T : Nat → Prop) (fp : List Nat) (ob0 : List AObj) (s Sg N : Nat) (P : List Mis) (bl0 : List Bk) (cnt0 : Nat) (L : List NE) (j : Nat) (X : List AObj) (bl : List Bk) (cnt : Nat) : Prop where
 d : DiskS T X s Sg N P bl cnt
 c : cnt ≤ cnt0 + j
 pg : PgLe (pgB bl0) (pgB bl)
 f : @Flat (frP (pgB bl)) X L
 w : ∀ (i : Nat) (x : NE), i < j → L[i]? = some x → atOf X x.2.1.p ≠ -1
 sm : Same ob0 X (fun i => T i ∨ i ∈ fp)
theorem recE_len {l : List Xt} (h : l.length ≤ 8) : (Lf.recG Lf.entE l).length ≤ 100 := by rw [Lf.recG_len Lf.entE_len]; omega
theorem recK_len {l : List Lf.Kd} (h : l.length ≤ 8) : (Lf.recG Lf.entK l).length ≤ 100 := by rw [Lf.recG_len Lf.entK_len]; omega
theorem node_body {pg : Pgs} {X : List AObj} {L : List NE} {j : Nat} {x : NE} (hF : @Flat (frP pg) X L) (hx : L[j]? = some x) (hw : ∀ (i : Nat) (y : NE), i < j → L[i]? = some y → atOf X y.2.1.p ≠ -1) (h2 : x.1 ≠ 0 → 2 ≤ x.2.1.s) :
  ∃ (kd : Int) (bo : List UInt8), ICall Tryz.prog 59 [nodeV x.1 x.2.1] X (fun r ob' => r = .tup [.int .i64 kd, .str bo] ∧ Same X ob' (fun _ => False)) ∧ (1 ≤ kd ∧ kd ≤ 4) ∧ bo.length ≤ 100 ∧ ∀ (pg' : Pgs) (i : Nat), PgLe pg pg' → i < 256 → pg' i = some (kd, bo) → Sto pg' x.1 (i : Int) x.2.1.l x.2.1.s := by
 letI := frP pg
 have hl := hF.loc x (List.mem_of_getElem? hx)
 have hok := hF.ok x (List.mem_of_getElem? hx)
 have hpost := hF.post j x hx
 have hnode := hF.node
 have hloc := hF.loc
 obtain ⟨h, k, ks⟩ := x
 simp only at h2 hok hpost
 cases h with
 | zero =>
  obtain ⟨_, q, off, c, hL⟩ := hl
  have hP : LeafP k.l := ⟨by rw [← hL.sz]; exact hok.2.1, by rw [← hL.sz]; exact hok.2.2, hok.1⟩
  exact ⟨2, _, body_leaf hL hP, by omega, recE_len hP.2.1, fun pg' i hpg hi hp => ⟨hP, hL.sz, i, rfl, hi, hp⟩⟩
 | succ h =>
  obtain ⟨q, off, c, hI, h48⟩ := hl
  have hkid : ∀ y ∈ ks, Node X h y ∧ Sto pg h (atOf X y.p) y.l y.s := by
   intro y hy
   obtain ⟨i, z, hi, hz, e1, e2⟩ := hpost y hy
   have hne := hw i z hi hz
   have hn := hnode i z hz
   have hb := (loc_bx (hloc z (List.mem_of_getElem? hz))).2
   obtain ⟨_, _, _, _, hW⟩ := hb
   have e1 : z.1 = h := by simpa using e1
   rw [e1, e2] at hn hW
   rw [e2] at hne
   exact ⟨hn, hW.resolve_left hne⟩
  have hks : ks.map (kidOf X) = (ks.map fun y => (⟨atOf X y.p, y.l, y.s⟩ : Ks)).map ksK := by rw [List.map_map]; rfl
  have hfl : ((ks.map fun y => (⟨atOf X y.p, y.l, y.s⟩ : Ks)).flatMap fun x => x.l) = ks.flatMap fun x => x.l := by rw [List.flatMap_map]
  have hsz := hI.sz
  have h2 := h2 (by simp)
  have hkb : Lf.kidsB ((ks.map fun y => (⟨atOf X y.p, y.l, y.s⟩ : Ks)).map ksK) = true := kidsB_of (pg := pg) (h := h) (by rw [List.length_map]; omega) (by rw [List.length_map]; omega) (by rw [hfl, ← hI.fl]; exact hok.1) fun z hz => by
   obtain ⟨y, hy, rfl⟩ := List.mem_map.1 hz
   exact ⟨(hkid y hy).2, (hkid y hy).1.ne (by have := (h48 y hy).1; omega)⟩
  refine ⟨3, _, body_inner hI (fun y hy => ⟨(hkid y hy).1, by have := (h48 y hy).1; omega⟩) (by rw [hks]; exact hkb), by omega, recK_len (by rw [List.length_map]; omega), fun pg' i hpg hi hp => ⟨_, fun z hz => ?_, by rw [List.length_map]; exact hsz, by rw [hfl]; exact hI.fl, hkb, i, rfl, hi, by rw [← hks]; exact hp⟩⟩
  obtain ⟨y, hy, rfl⟩ := List.mem_map.1 hz
  exact ⟨(hkid y hy).2.up hpg, h48 y hy⟩
theorem po_two [Fr] {ob : List AObj} : ∀ {h : Nat} {k : Kd} {L : List NE}, PO ob h k L → (h ≠ 0 → 2 ≤ k.s) → ∀ x ∈ L, x.1 ≠ 0 → 2 ≤ x.2.1.s
 | 0, k, L, hP, _, x, hx, hn => by
  have hP : L = [(0, k, [])] := hP
  subst hP
  simp only [List.mem_singleton] at hx; subst hx; exact absurd rfl hn
 | h + 1, k, L, ⟨q, off, c, ks, Ls, hI, hk, hl, hLs, e⟩, h2, x, hx, hn => by
  subst e
  rcases List.mem_append.1 hx with hx | hx
  ·obtain ⟨Lx, hLx, hx⟩ := List.mem_flatten.1 hx
   obtain ⟨j, hj, rfl⟩ := List.getElem_of_mem hLx
   have hj' : j < ks.length := by omega
   exact po_two (hLs j ks[j] Ls[j] (List.getElem?_eq_getElem hj') (List.getElem?_eq_getElem hj)) (fun _ => by have := (hk _ (List.getElem_mem hj')).2.1; omega) x hx hn
  ·simp only [List.mem_singleton] at hx; subst hx; exact h2 (by simp)
theorem atOf_eq {ob ob' : List AObj} {p : Nat} (h : ob'[p]? = ob[p]?) : atOf ob' p = atOf ob p := by simp only [atOf, h]
def WrK (T : Nat → Prop) (ob : List AObj) (s Sg N : Nat) (P : List Mis) (bl : List Bk) (cnt h : Nat) (k : Kd) : PV → List AObj → Prop := fun r ob' =>
 ∃ (a : Int) (bl2 : List Bk) (cnt2 : Nat), r = .tup [.int .i64 a, .nili] ∧ DiskS T ob' s Sg N P bl2 cnt2 ∧ 3 * cnt2 ≤ 3 * cnt + k.l.length + 2 ∧ PgLe (pgB bl) (pgB bl2) ∧ @Node (frP (pgB bl2)) ob' h k ∧ Sto (pgB bl2) h a k.l k.s ∧ Same ob ob' (fun i => T i ∨ i ∈ k.fp)
theorem write_node {T : Nat → Prop} {ob : List AObj} {t s Sg N cnt h : Nat} {P : List Mis} {bl : List Bk} {k : Kd} (hv : ob[t]? = some (.box [nodeV h k])) (hN : @Node (frP (pgB bl)) ob h k) (h1 : 1 ≤ k.s) (h2 : h ≠ 0 → 2 ≤ k.s) (h8 : k.s ≤ 8) (hok : OkL k.l) (hlen : k.l.length ≤ 150)
  (hD : DiskS T ob s Sg N P bl cnt) (hT : ∀ i, ob.length ≤ i → T i) (hfp : ∀ i ∈ t :: k.fp, ¬ T i) (hnt : t ∉ k.fp) (hP : PlOk P) (hc : cnt ≤ 100) : ICall Tryz.prog 21 [.ref t 0, pFn s] ob (WrK T ob s Sg N P bl cnt h k) := by
 refine icall_dr Tryz.func21 E21.h ?_
 have hlt := @Node.lt (frP (pgB bl)) _ _ _ hN
 have htl := (List.getElem?_eq_some_iff.1 hv).1
 simp only [U21, seval, bA]
 refine callM (@nodes_i (frP (pgB bl)) _ _ _ _ hv hN h1 h8 (by omega)) ?_
 rintro r ob1 ⟨L, hPO, hv1, hq1, hS1, h3⟩
 have hN1 := @Node.same (frP (pgB bl)) _ _ _ _ _ hN hS1 (fun _ _ h => h)
 obtain ⟨hF, ⟨L', kks, hLe⟩, _⟩ := @flat_of (frP (pgB bl)) h ob1 k L hN1 hok h1 h8 hPO
 have hfpL := @PO.fp (frP (pgB bl)) _ _ _ _ hPO
 have hll : 0 < L.length := by rw [hLe]; simp
 rcases hv1 with ⟨h0, _⟩ | ⟨q, off, c, rfl, hA, hcb⟩
 ·omega
 have hqq := hq1 q ⟨off, _, c, rfl⟩
 have hql := hA.lt
 have hpo2 := @po_two (frP (pgB bl)) _ _ _ _ hPO h2
 have hD1 := (hD.wide (U := fun i => T i ∧ i ≠ q) fun i hi ht => ⟨ht, by omega⟩).same hS1 (fun _ _ _ h => h)
 have hT1 : ∀ i, ob1.length ≤ i → T i ∧ i ≠ q := fun i hi => ⟨hT i (by have := hS1.1; omega), by omega⟩
 have hfk : ∀ x ∈ L, ∀ i ∈ x.2.1.fp, ¬ (T i ∧ i ≠ q) := fun x hx i hi ht => hfp i (by simp [hfpL x hx i hi]) ht.1
 have hv1 := hS1.get hv (fun h => h)
 simp only [U21, seval, bA]
 refine loopF (fun x : Nat × List AObj × List Bk × Nat => ⟨ofL [(0, .ref t 0), (1, pFn s), (13, .asl q off L.length c), (14, .int .i64 (L.length : Int)), (15, .int .i64 (x.1 : Int))], x.2.1⟩)
  (fun x => x.1 ≤ L.length ∧ WI (fun i => T i ∧ i ≠ q) k.fp ob1 s Sg N P bl cnt L x.1 x.2.1 x.2.2.1 x.2.2.2) (fun x => L.length - x.1) (0, ob1, bl, cnt) ?_ ⟨Nat.zero_le _, ⟨hD1, by simp, PgLe.refl _, hF, fun i x hi _ => by omega, Same.refl _ _⟩⟩ ?_
 ·simp only [U21, seval, bA]
  all_goals rfl
 rintro ⟨j, X, bl1, cnt1⟩ ⟨hj, hI⟩
 simp only at hj hI
 have hXv := hI.sm.get hv1 (by rintro (h | h); exact hfp t (by simp) h.1; exact hnt h)
 by_cases hlt2 : j < L.length
 ·have d : decide ((j : Int) < (L.length : Int)) = true := by simpa using hlt2
  have d' : decide (j < L.length) = true := decide_eq_true hlt2
  have e1 : IntKind.i64.wrap ((j : Int) + 1) = ((j + 1 : Nat) : Int) := by rw [wrapI (by omega) (by omega)]; omega
  obtain ⟨x, hx⟩ : ∃ x, L[j] = x := ⟨_, rfl⟩
  have hxg : L[j]? = some x := by rw [List.getElem?_eq_getElem hlt2, hx]
  have hxm := List.mem_of_getElem? hxg
  have hAX := hI.sm.arr hA (by rintro (h | h); exact h.2 rfl; have := hlt q h; omega)
  have hld := ldK hAX (i := j) (x := neV x) (by simp [hxg])
  simp only [neV, nodeV] at hld
  have hloc := @Flat.loc (frP (pgB bl1)) _ _ hI.f x hxm
  obtain ⟨hpm, qx, ox, cx, hbx, hW⟩ := loc_bx hloc
  simp only [U21, d, d', hld, seval, bA]
  refine callX (mW x.1) (callM (where_i x.1 x.2.1.p) ?_)
  rintro r ob' ⟨rfl, hob'⟩; rw [hob']; clear hob' ob'
  by_cases ha : atOf X x.2.1.p = -1
  ·have da : (atOf X x.2.1.p != -1) = false := by simp [ha]
   obtain ⟨kd, bo, hbody, hkd, hbl, hsto⟩ := node_body hI.f hxg hI.w (hpo2 x hxm)
   simp only [nodeV] at hbody
   simp only [U21, hbx, ldB1, da, seval, bA]
   refine callM hbody ?_
   rintro r X2 ⟨rfl, hS2⟩
   have hok1 := @Flat.ok (frP (pgB bl1)) _ _ hI.f x hxm
   have hN2 := @Node.same (frP (pgB bl1)) _ _ _ _ _ (@Flat.node (frP (pgB bl1)) _ _ hI.f j x hxg) hS2 (fun _ _ h => h)
   have hne := @Node.ne (frP (pgB bl1)) _ _ _ hN2 hok1.2.1
   obtain ⟨e, he, hke⟩ := key_mem hne
   have heo := chain_one hok1.1.1 e he
   have hD2 := hI.d.same hS2 (fun _ _ _ h => h)
   have hlX := hI.sm.1
   have hT2 : ∀ i, X2.length ≤ i → T i ∧ i ≠ q := fun i hi => hT1 i (by have := hS2.1; omega)
   have hc1 := hI.c
   simp only [U21, seval, bA]
   refine callJ (mF x.1) (@first_r (frP (pgB bl1)) x.1 _ _ hN2 hok1.2.1) ?_
   try simp only [U21, seval, bA]
   refine callM (put_d hD2 hT2 hP (by omega) hkd (by rw [hke]; have := heo.1; have := heo.2.2.1; omega) hbl) ?_
   rintro r X3 ⟨i, bl2, rfl, hi, hD3, hpg3, hpi, hS3⟩
   have hS23 : Same X X3 (fun i => T i ∧ i ≠ q) := (hS2.mono fun _ h => h.elim).trans hS3
   have hpT := hfk x hxm _ hpm
   have hb3 := hS23.get hbx hpT
   have hF3 := flat_same hI.f hpg3 hS23 hfk
   have hb3' := hb3
   rw [ha] at hb3'
   have hF4 := flat_set hF3 hxm hb3' (hsto (pgB bl2) i hpg3 hi hpi)
   have g3 : ∀ a, (X3.set x.2.1.p a)[x.2.1.p]? = some a := fun a => set_get hb3
   simp only [U21, seval, bA]
   refine callX (mW x.1) (callM (where_i x.1 x.2.1.p) ?_)
   rintro r ob' ⟨rfl, hob'⟩; rw [hob']; clear hob' ob'
   simp only [U21, hb3, ldB1, e1, seval, bA]
   have hpk := hfpL x hxm _ hpm
   refine ⟨(j + 1, X3.set x.2.1.p (.box [.int .i64 (i : Int), .asl qx ox x.2.1.s cx]), bl2, cnt1 + 1), rfl, ⟨hlt2, hD3.same (Same.set (T := (· = x.2.1.p)) rfl) (fun m _ hm e => by rw [e] at hm; exact hpT hm), by simp only; omega, hI.pg.trans hpg3, hF4, fun m y hm hy => ?_, (hI.sm.trans (hS23.mono fun _ h => .inl h)).trans (Same.set (.inr hpk))⟩, by simp only; omega⟩
   by_cases ey : y.2.1.p = x.2.1.p
   ·rw [ey, atOf_at (g3 _)]; omega
   ·have hym := List.mem_of_getElem? hy
    have hpy := (loc_bx (@Flat.loc (frP (pgB bl1)) _ _ hI.f y hym)).1
    have hyl := (loc_bx (@Flat.loc (frP (pgB bl1)) _ _ hI.f y hym)).2
    obtain ⟨_, _, _, hyb, _⟩ := hyl
    rw [atOf_eq (ob := X) (by rw [List.getElem?_set_ne (fun h => ey h.symm)]; exact hS23.2 _ (lt_ofN hyb) (hfk y hym _ hpy))]
    refine hI.w m y ?_ hy
    have : m ≠ j := by rintro rfl; rw [hxg] at hy; cases hy; exact ey rfl
    omega
  ·have da : (atOf X x.2.1.p != -1) = true := by simp [ha]
   simp only [U21, hbx, ldB1, da, e1, seval, bA]
   refine ⟨(j + 1, X, bl1, cnt1), rfl, ⟨hlt2, hI.d, by have := hI.c; simp only; omega, hI.pg, hI.f, fun i y hi hy => ?_, hI.sm⟩, by simp only; omega⟩
   by_cases e : i = j
   ·subst e; rw [hxg] at hy; cases hy; exact ha
   ·exact hI.w i y (by omega) hy
 ·have d : decide ((j : Int) < (L.length : Int)) = false := by simpa using hlt2
  have hje : j = L.length := by omega
  have hlast : L[L'.length]? = some (h, k, kks) := by rw [hLe, List.getElem?_append_right (Nat.le_refl _), Nat.sub_self]; rfl
  have hlm := List.mem_of_getElem? hlast
  have hLl : L'.length < L.length := by rw [hLe]; simp
  have hne := hI.w _ _ (by omega) hlast
  have hnode := @Flat.node (frP (pgB bl1)) _ _ hI.f _ _ hlast
  obtain ⟨_, qx, ox, cx, hbx, hW⟩ := loc_bx (@Flat.loc (frP (pgB bl1)) _ _ hI.f _ hlm)
  have hst : Sto (pgB bl1) h (atOf X k.p) k.l k.s := hW.resolve_left hne
  simp only [nodeV] at hXv
  simp only [U21, d, hXv, ldB1, seval, bA]
  refine callX (mW h) (callM (where_i h k.p) ?_)
  rintro r ob' ⟨rfl, hob'⟩; rw [hob']; clear hob' ob'
  simp only [U21, hbx, ldB1, seval, bA]
  have hc1 := hI.c
  exact ⟨_, rfl, _, bl1, cnt1, rfl, hI.d.wide (fun _ _ h => h.1), by omega, hI.pg, hnode, hst, (hS1.mono fun _ h => h.elim).trans (hI.sm.mono fun i h => h.elim (fun h => .inl h.1) .inr) |>.mono fun _ h => h⟩
def StoT (pg : Pgs) (a : Int) (hi : Nat) (l : List Xt) : Prop := (a = -1 ∧ hi = 0 ∧ l = []) ∨ ∃ (h n : Nat), hi = h + 1 ∧ Sto pg h a l n ∧ 1 ≤ n ∧ (h ≠ 0 → 2 ≤ n) ∧ n ≤ 8
def WrT (T : Nat → Prop) (ob : List AObj) (t s Sg N : Nat) (P : List Mis) (bl : List Bk) (cnt hi : Nat) (l : List Xt) (fp : List Nat) : PV → List AObj → Prop := fun r ob' =>
 ∃ (a : Int) (bl2 : List Bk) (cnt2 : Nat), r = .tup [.int .i64 a, .nili] ∧ DiskS T ob' s Sg N P bl2 cnt2 ∧ 3 * cnt2 ≤ 3 * cnt + l.length + 2 ∧ PgLe (pgB bl) (pgB bl2) ∧ @HiAt (frP (pgB bl2)) ob' t l fp hi ∧ StoT (pgB bl2) a hi l ∧ Same ob ob' (fun i => T i ∨ i ∈ fp)
theorem write_i {T : Nat → Prop} {ob : List AObj} {t s Sg N cnt hi : Nat} {P : List Mis} {bl : List Bk} {l : List Xt} {fp : List Nat} (hT : @HiAt (frP (pgB bl)) ob t l fp hi) (hok : OkL l) (hlen : l.length ≤ 150)
  (hD : DiskS T ob s Sg N P bl cnt) (hU : ∀ i, ob.length ≤ i → T i) (hfp : ∀ i ∈ t :: fp, ¬ T i) (hP : PlOk P) (hc : cnt ≤ 100) : ICall Tryz.prog 21 [.ref t 0, pFn s] ob (WrT T ob t s Sg N P bl cnt hi l fp) := by
 have hno := @HiAt.no (frP (pgB bl)) _ _ _ _ _ hT
 rcases @HiAt.ex (frP (pgB bl)) _ _ _ _ _ hT with ⟨hv, rfl, rfl, rfl⟩ | ⟨h, k, hv, rfl, hN, h1, h2, h8, rfl, rfl⟩
 ·refine icall_dr Tryz.func21 E21.h ?_
  simp only [U21, seval, bA]
  refine callM (@nodes_0 (frP (pgB bl)) _ _ hv) ?_
  rintro r ob1 ⟨rfl, hS⟩
  have hv1 := hS.get hv (fun h => h)
  simp only [U21, seval, bA]
  refine loopF (fun _ : Unit => ⟨ofL [(0, .ref t 0), (1, pFn s), (13, .nils), (14, .int .i64 0), (15, .int .i64 0)], ob1⟩) (fun _ => True) (fun _ => 0) () ?_ trivial ?_
  ·simp only [U21, seval, bA]
   all_goals rfl
  rintro _ _
  simp only [U21, hv1, ldB1, seval, bA]
  exact ⟨_, rfl, -1, bl, cnt, rfl, hD.same hS (fun _ _ _ h => h), by simp only [List.length_nil]; omega, PgLe.refl _, @HiAt.mk (frP (pgB bl)) _ _ _ _ _ (.inl ⟨hv1, rfl, rfl, rfl⟩) hno, .inl ⟨rfl, rfl, rfl⟩, hS.mono fun _ h => h.elim⟩
 ·refine callM (write_node hv hN h1 h2 h8 hok hlen hD hU hfp hno hP hc) ?_
  rintro r ob' ⟨a, bl2, cnt2, rfl, g1, g2, g3, g4, g5, g6⟩
  exact ⟨a, bl2, cnt2, rfl, g1, g2, g3, @HiAt.mk (frP (pgB bl2)) _ _ _ _ _ (.inr ⟨h, k, g6.get hv (by rintro (h | h); exact hfp t (by simp) h; exact hno h), rfl, g4, h1, h2, h8, rfl, rfl⟩) hno, .inr ⟨h, k.s, rfl, g5, h1, h2, h8⟩, g6⟩
open Go.RowKit Ar
theorem tread_i {bl : List Bk} {x : Nat} {ob : List AObj} {a : Int} {hi : Nat} {l : List Xt} (hR : Rd bl x ob) (hS : StoT (pgB bl) a hi l) (hok : OkL l) (h6 : hi ≤ 6) :
  ICall Tryz.prog 25 [.int .i64 a, .int .i64 (hi : Int), gFn x] ob fun r ob' => ∃ t fp, r = .tup [.ref t 0, .nili] ∧ @TreeAt frT ob' t l fp ∧ Same ob ob' (fun _ => False) := by
 letI := frT
 refine icall_dr Tryz.func25 E25.h ?_
 have d3 : decide ((hi : Int) < 0) = false := by simp
 have d4 : decide ((6 : Int) < (hi : Int)) = false := by rw [decide_eq_false_iff_not]; omega
 rcases hS with ⟨rfl, rfl, rfl⟩ | ⟨h, n, rfl, hS, h1, h2, h8⟩
 ·simp only [U25, seval, bA]
  refine callM (tnew_i ob) ?_
  rintro r ob1 ⟨rfl, hT, hS1⟩
  simp only [U25, seval, bA]
  exact ⟨_, rfl, _, _, rfl, hT, hS1⟩
 ·have ha := hS.at_
  have d1 : (a == -1) = false := by rw [beq_eq_false_iff_ne]; omega
  have d2 : (((h + 1 : Nat) : Int) == 0) = false := by rw [beq_eq_false_iff_ne]; omega
  simp only [U25, d1, d2, d3, d4, seval, bA]
  refine callM (tnew_i ob) ?_
  rintro r ob1 ⟨rfl, hT, hS1⟩
  have hS2 : Same ob1 (ob1 ++ [AObj.box [gFn x, .int .i64 a]]) (fun _ => False) := Same.app _ _ _
  have g0 := app0 ob1 (AObj.box [gFn x, .int .i64 a])
  have hT2 := hT.same hS2 (fun _ _ h => h)
  have hS02 := hS1.trans hS2
  have hll : ob.length < ob1.length := by have := hT.lt ob.length (by simp); exact this
  simp only [U25, d2, seval, bA]
  generalize ob1 ++ [AObj.box [gFn x, .int .i64 a]] = ob2 at *
  refine callM (read_i' h (hR.same hS02) g0 hS (.inl rfl) h2 h1 (by omega)) ?_
  rintro r ob3 ⟨k, rfl, hN, hkl, hks, hfp, hS3⟩
  obtain ⟨v, hv, hv2⟩ := hT2.ex
  have hv3 := hS3.get hv (fun h => h)
  have hl2 := hS2.1
  have g3 : ∀ b, (ob3.set ob.length b)[ob.length]? = some b := fun b => set_get hv3
  have hno : ob.length ∉ k.fp := fun hm => by have := hfp _ hm; omega
  have hT4 : TreeAt (ob3.set ob.length (.box [nodeV h k])) ob.length l k.fp := by
   refine ⟨⟨_, g3 _, ?_⟩, hno⟩
   have := TopAt.node h k (hN.same (Same.set (ob := ob3) (o := ob.length) (a := AObj.box [nodeV h k]) (T := (· = ob.length)) rfl) fun i hi e => by have e : i = ob.length := e; rw [e] at hi; exact hno hi) (by omega) (fun hh => by have := h2 hh; omega) (by omega)
   rw [hkl] at this; exact this
  have hne : l ≠ [] := by rw [← hkl]; exact hN.ne (by omega)
  have hlen := ok_len hok
  have hSf : Same ob (ob3.set ob.length (.box [nodeV h k])) (fun _ => False) := (hS02.trans hS3).hi (Nat.le_refl _)
  have hck := check_spec l (by omega)
  rw [okB_ok.2 hok] at hck
  simp only [nodeV] at hT4 hSf
  simp only [U25, hv3, ldB1, nodeV, seval, bA]
  generalize ob3.set ob.length (AObj.box [.ifc (tyN h) (.ref k.p 0)]) = ob4 at *
  refine callM (all_i hT4 hok.1) ?_
  rintro r ob5 ⟨m, ho, hm, hS5⟩
  rcases ho with ⟨h0, rfl⟩ | ⟨rfl, ho⟩
  ·exact absurd h0 hne
  have ho3 : rowsO (some (AObj.list 4 (l.map rowE))) 0 l.length = some (l.map rowE) := by simp [rowsO]
  simp only [U25, ho, ho3, seval, bA]
  refine callS hck rfl ?_
  simp only [U25, seval, bA]
  exact ⟨_, rfl, _, _, rfl, hT4.same hS5 (fun _ _ h => h), hSf.trans hS5⟩
open Go.RowKit
theorem cM_nil (k : Int) : cM [] k = zeroM := rfl
theorem fine_spec : PCall Tryz.prog 7 [] (.bool true) := by
 refine pcall_dr Tryz.func7 E7.h ?_
 obtain ⟨p, hp⟩ : ∃ p : Pg, (⟨1, 0, 3, 0, [97]⟩ : Pg) = p := ⟨_, rfl⟩
 have hpP : PV.agg [.int .i64 1, .int .i64 0, .int .i64 3, .int .i64 0, .str [97]] = pP p := by rw [← hp]; rfl
 have hm : mayB p = true := by rw [← hp]; decide
 have hw : writeS p = (sealS (bodyS p), 0) := by rw [writeS, if_pos hm]
 have hr := read_write p hm
 have hl := write_len p
 rw [hw] at hl
 simp only at hl
 obtain ⟨S, hS⟩ : ∃ S, sealS (bodyS p) = S := ⟨_, rfl⟩
 rw [hS] at hw hr hl
 simp only [U7, seval, bA]
 refine callI plain_spec ?_
 simp only [U7, seval, bA]
 refine callM (New_i (g := 8) [] (by omega) (by omega)) ?_
 rintro r o1 ⟨⟨N, rfl, h1⟩, _⟩
 simp only [U7, seval, bA]
 rw [hpP]
 refine callI (write_spec p (by rw [← hp]; decide)) ?_
 rw [hw]
 simp only [U7, seval, bA]
 refine callM (Program_i (b := 0) (k := 0) (bk := zeroK) h1 (fun i _ => Nat.zero_le i) (by omega) rfl (by omega) rfl rfl (by omega) (.inl (by rw [cM_nil]; rfl)) (by rw [cM_nil]; simp [zeroM]) rfl) ?_
 rintro r o2 ⟨h2, _, hw2⟩
 rw [cM_nil] at h2 hw2
 have hw2 : WrapAt o2 0 r := hw2
 have := hw2.zero; subst this
 simp only [U7, seval, bA]
 refine callM (Read_i (b := 0) (k := 0) h2 (bk := ⟨[S], 0, false⟩) (by rfl) (by omega) rfl) ?_
 rintro r o3 ⟨r2, rfl, _, hw3⟩
 have hw3' : WrapAt o3 0 r2 := by simpa using hw3
 have := hw3'.zero; subst this
 simp only [U7, seval, bA]
 refine callI (read_spec S (by omega)) ?_
 rw [hr, ← hp]
 have g0 : ∀ l : List AObj, (o3 ++ l)[o3.length]? = l[0]? := fun l => by rw [List.getElem?_append_right (Nat.le_refl _)]; simp
 have z0 : ∀ (l : List AObj) a, (o3 ++ l).set o3.length a = o3 ++ l.set 0 a := fun l a => by rw [List.set_append_right _ _ (Nat.le_refl _)]; simp
 simp only [U7, rowP, g0, z0, beq_self_eq_true, seval, bA]
open Go.RowKit Ar
theorem parts_two {f g : Int} (hfg : f ≤ g) : ∀ {l : List Xt} {lo : Int}, Chain lo l → (partsS l 0 f).length + (partsS l g 16777216).length ≤ l.length + 1
 | [], _, _ => by simp [partsS]
 | e :: l, lo, ⟨h1, h2, h3⟩ => by
  have ih := parts_two hfg h3
  have hb : (partsS l g 16777216).length ≤ l.length := List.length_filterMap_le _ _
  have c1 : (partsS (e :: l) 0 f).length ≤ (partsS l 0 f).length + 1 := by rw [partsS_cons]; cases partS e 0 f <;> simp
  have c2 : (partsS (e :: l) g 16777216).length ≤ (partsS l g 16777216).length + 1 := by rw [partsS_cons]; cases partS e g 16777216 <;> simp
  rw [List.length_cons]
  by_cases h : f ≤ endE e
  ·have : partsS l 0 f = [] := parts_end h3 h
   rw [this] at c1
   simp only [List.length_nil] at c1; omega
  ·have c3 : partsS (e :: l) g 16777216 = partsS l g 16777216 := by rw [partsS_cons, part_none (by omega)]
   rw [c3]; omega
theorem over_len2 {l : List Xt} {e : Xt} (h : OkL l) (he : OneP e) : (overS l e).length ≤ l.length + 2 := by
 have := tidy_len (partsS l 0 e.fr ++ ([e] ++ partsS l (endE e) 16777216))
 have h2 := parts_two (f := e.fr) (g := endE e) (by have := he.2.1; simp only [endE]; omega) h.1
 simp only [List.length_append, List.length_cons, List.length_nil] at this
 rw [overS]; omega
theorem cut_len2 {l : List Xt} {f n : Int} (h : OkL l) (hn : 0 ≤ n) : (cutS l f n).length ≤ l.length + 1 := by
 have := tidy_len (partsS l 0 f ++ partsS l (f + n) 16777216)
 have h2 := parts_two (f := f) (g := f + n) (by omega) h.1
 simp only [List.length_append] at this
 rw [cutS]; omega
theorem overT_len {l : List Xt} {e : Xt} (h : OkL l) : (overT l e).length ≤ l.length + 2 := by
 unfold overT; split
 ·exact over_len2 h (by assumption)
 ·omega
theorem cutT_len {l : List Xt} {f n : Int} (h : OkL l) : (cutT l f n).length ≤ l.length + 1 := by
 unfold cutT; split
 ·rename_i hs; exact cut_len2 h hs.2.1
 ·omega
theorem sum_ge {ks : List Kd} {c : Nat} (h : ∀ x ∈ ks, c ≤ x.l.length) : ks.length * c ≤ (ks.flatMap (·.l)).length := by
 induction ks with
 | nil => simp
 | cons x ks ih =>
  have h1 := h x (by simp)
  have h2 := ih fun y hy => h y (by simp [hy])
  rw [List.length_cons, Nat.add_mul, List.flatMap_cons, List.length_append]; omega
theorem node_pow [Fr] {ob : List AObj} : ∀ {h : Nat} {k : Kd}, Node ob h k → k.s * 4 ^ h ≤ k.l.length
 | 0, k, ⟨q, off, c, hL⟩ => by rw [hL.sz]; simp
 | h + 1, k, ⟨q, off, c, ks, hI, hk⟩ => by
  rw [hI.sz, hI.fl]
  refine sum_ge fun x hx => ?_
  have h1 := node_pow (hk x hx).1
  have h2 := Nat.mul_le_mul_right (4 ^ h) (hk x hx).2.1
  rw [Nat.pow_succ]; omega
theorem node_high [Fr] {ob : List AObj} {h : Nat} {k : Kd} (hN : Node ob h k) (hs : 1 ≤ k.s) (hl : k.l.length ≤ 1000) : h ≤ 4 := by
 have h1 := node_pow hN
 have h2 := Nat.mul_le_mul_right (4 ^ h) hs
 rcases Nat.lt_or_ge h 5 with g | g
 ·omega
 ·have := Nat.pow_le_pow_right (n := 4) (by decide) g
  have e : (4 : Nat) ^ 5 = 1024 := by decide
  omega
open Go.RowKit Ar
structure Lay where
 e : Xt
 c : Bool
def rowY (x : Lay) : List PV := [.int .i64 x.e.fr, .int .i64 x.e.n, .int .i64 x.e.kd, .int .i64 x.e.at_, .bool x.c]
theorem rowY_len (x : Lay) : (rowY x).length = 5 := rfl
theorem stt0 : sttT blK = List.replicate 16 0 := by rfl
theorem dok0 (P : List Mis) : DOk P blK (sttT blK) (-1) 0 0 [] [] where
 lb := rfl
 ls := rfl
 tx k hk t ht := by rw [List.eq_of_mem_replicate hk] at ht; cases ht
 st b k x hk hx := by
  have h1 : k = zeroK := List.eq_of_mem_replicate (List.mem_of_getElem? hk)
  rw [stt0] at hx
  have h2 : x = 0 := List.eq_of_mem_replicate (List.mem_of_getElem? hx)
  subst h1; subst h2
  exact ⟨rfl, by simp [zeroK], .inr (.inl ⟨rfl, rfl, rfl⟩)⟩
 op := .inl ⟨rfl, by simp⟩
 nb := by simp
 ct := by simp
theorem found0 : foundB blK 256 = [] := by
 have key : ∀ n, foundB blK n = [] := by
  intro n
  induction n with
  | zero => rfl
  | succ n ih =>
   have htx : txB blK n = none := by
    unfold txB
    cases hk : blK[n / 16]? with
    | none => rfl
    | some k => rw [List.eq_of_mem_replicate (List.mem_of_getElem? hk)]; rfl
   rw [foundB, if_neg (by rw [rdE, htx]; simp [okE]), ih]
 exact key 256
theorem worn_open {P bl stt opn ops cnt full bads} (h : DOk P bl stt opn ops cnt full bads) : Wr.countN (tabS (sttT bl)) 3 16 ≤ bads.length := by
 refine count_le 16 bads (by simp [sttT, h.lb]) fun j hj hs => ?_
 have h1 : j < bl.length := by rw [h.lb]; exact hj
 have h2 : j < stt.length := by rw [h.ls]; exact hj
 have hk := List.getElem?_eq_getElem h1
 rw [sttT, List.getElem?_map, hk] at hs
 simp only [Option.map_some, Option.some.injEq] at hs
 obtain ⟨_, _, h3⟩ := h.st j _ _ hk (List.getElem?_eq_getElem h2)
 rcases h3 with ⟨_, _, h3⟩ | ⟨h3, _⟩ | ⟨h3, _⟩ | ⟨h3, _⟩
 ·exact h3
 all_goals (unfold fstS at hs; rw [h3] at hs; simp only [Bool.false_eq_true, if_false] at hs; split at hs <;> omega)
def TO (t w : Nat) (fp : List Nat) (i : Nat) : Prop := i ∉ t :: fp ∧ i ≠ w
theorem disk_tree {X X' : List AObj} {t w s Sg N cnt : Nat} {fp fp' : List Nat} {P : List Mis} {bl : List Bk} (h : DiskS (TO t w fp) X s Sg N P bl cnt) (hS : Same X X' (· ∈ t :: fp)) (hsub : Sub X fp fp') : DiskS (TO t w fp') X' s Sg N P bl cnt := by
 refine ((h.wide (U := fun i => TO t w fp i ∧ TO t w fp' i) fun i hi ht => ⟨ht, fun hm => ?_, ht.2⟩).same hS fun i _ ht hm => ht.1.1 hm).wide fun i _ ht => ht.2
 rcases List.mem_cons.1 hm with hm | hm
 ·exact ht.1 (by simp [hm])
 ·rcases hsub i hm with h1 | h1
  ·exact ht.1 (by simp [h1])
  ·omega
theorem RCall.ofSnap {P : Program} {f : Nat} {ps qs : List PV} {ob : List AObj} {r : PV} (h : PCall P f qs r) (hs : snapL ob [] ps = some qs) (hf : r.flat = true) : RCall P f ps ob r := by
 refine ⟨h.1, fun cx w F l vs R hv => ?_⟩
 refine (h.2 w (callF F l) vs R.globOk ?_ (snapL_sound (s := ⟨fun _ => .bot, ob⟩) R ps qs vs hs hv)).mono ?_
 ·rintro b (hb | ⟨o, L, h1, h2, h3⟩)
  ·exact R.flt b hb
  ·rw [← h3]; exact (R.own o L h1 h2).2.1
 ·rintro e w' ⟨v, F', rfl, hB, h1, h2, h3, hrr⟩
  obtain ⟨R1', m1⟩ := R.ext hB
  have hv' : R1 w' F' (fun _ => none) r v := by
   cases r <;> first | exact hrr | (simp [PV.flat] at hf)
  exact ⟨v, F, rfl, R1', m1, hv'.ofFlat hf _ _ _⟩
theorem own_snap {ob : List AObj} {v : PV} {m : Nat} {l : List Xt} (h : OwnL ob v m l) : ∃ q, snap ob [] v = some q ∧ nz q = .slc (l.map rowE) := by
 rcases h with ⟨h0, rfl⟩ | ⟨rfl, h1⟩
 ·subst h0; exact ⟨.nils, rfl, rfl⟩
 ·refine ⟨.slc (l.map rowE), ?_, rfl⟩
  simp [snap, rowsOf, h1]
theorem alike_r {ob : List AObj} {v1 v2 : PV} {m1 m2 : Nat} {l : List Xt} (h1 : OwnL ob v1 m1 l) (h2 : OwnL ob v2 m2 l) (hlen : l.length ≤ 1000) : RCall Tryz.prog 27 [v1, v2] ob (.bool true) := by
 have hal := alike_spec l l (by omega) (by omega)
 rw [decide_eq_true rfl] at hal
 obtain ⟨q1, s1, n1⟩ := own_snap h1
 obtain ⟨q2, s2, n2⟩ := own_snap h2
 exact RCall.ofSnap (PCall.nzA (args' := [q1, q2]) hal (by simp only [nzL, n1, n2])) (by simp [snapL, s1, s2]) rfl
theorem kept_end {F : Fr} {ob : List AObj} {ta tb t w : Nat} {fa fb fp : List Nat} {l1 l2 : List Xt} {wv : PV} {f : Nat → PV} (hA : @TreeAt frT ob ta l1 fa) (hB : @TreeAt frT ob tb l2 fb) (hT : @TreeAt F ob t l2 fp) (hW : OwnL ob wv w l1) (h1 : OkL l1) (h2 : OkL l2) (n1 : l1.length ≤ 1000) (n2 : l2.length ≤ 1000)
  (f8 : f 8 = .nili) (f20 : f 20 = .nili) (f18 : f 18 = .ref ta 0) (f19 : f 19 = .ref tb 0) (f12 : f 12 = wv) (f10 : f 10 = .ref t 0) : AWP Tryz.prog 0 (pc E4.a 61) (AFin [ARV.t 6] (.bool true)) ⟨f, ob⟩ := by
 simp only [U4, f8, f20, f18, f19, f12, f10, seval, bA]
 refine callM (@all_i frT _ _ _ _ hA h1.1) ?_
 rintro r ob1 ⟨m1, o1, _, hS1⟩
 simp only [U4, f8, f20, f18, f19, f12, f10, seval, bA]
 refine callR (alike_r o1 (hW.same hS1 (fun h => h)) n1) ?_
 simp only [U4, f8, f20, f18, f19, f12, f10, seval, bA]
 refine callM (@all_i frT _ _ _ _ (@TreeAt.same frT _ _ _ _ _ _ hB hS1 (fun _ _ h => h)) h2.1) ?_
 rintro r ob2 ⟨m2, o2, _, hS2⟩
 simp only [U4, f8, f20, f18, f19, f12, f10, seval, bA]
 refine callM (@all_i F _ _ _ _ (@TreeAt.same F _ _ _ _ _ _ (@TreeAt.same F _ _ _ _ _ _ hT hS1 (fun _ _ h => h)) hS2 (fun _ _ h => h)) h2.1) ?_
 rintro r ob3 ⟨m3, o3, _, hS3⟩
 simp only [U4, f8, f20, f18, f19, f12, f10, seval, bA]
 refine callR (alike_r (o2.same hS3 (fun h => h)) o3 n2) ?_
 simp only [U4, f8, f20, f18, f19, f12, f10, seval, bA]
theorem hi_le {F : Fr} {ob : List AObj} {t : Nat} {l : List Xt} {fp : List Nat} {hi : Nat} (h : @HiAt F ob t l fp hi) (hl : l.length ≤ 1000) : hi ≤ 6 := by
 rcases @HiAt.ex F _ _ _ _ _ h with ⟨_, rfl, _⟩ | ⟨j, k, _, rfl, hN, h1, _, _, rfl, _⟩
 ·omega
 ·have := @node_high F _ _ _ hN h1 hl; omega
theorem OwnL.stay {ob ob' : List AObj} {T : Nat → Prop} {v : PV} {m : Nat} {W : List Xt} (h : OwnL ob v m W) (hS : Same ob ob' T) (hT : v = .nils ∨ ¬ T m) : OwnL ob' v m W := by
 rcases h with h | ⟨h1, h2⟩
 ·exact .inl h
 ·rcases hT with hT | hT
  ·rw [h1] at hT; cases hT
  ·exact .inr ⟨h1, hS.get h2 hT⟩
structure Mid (t w s Sg N : Nat) (P : List Mis) (wv : PV) (l1 : List Xt) (bl : List Bk) (cnt : Nat) (m : List Xt) (fp : List Nat) (X : List AObj) : Prop where
 d : DiskS (TO t w fp) X s Sg N P bl cnt
 tr : @TreeAt (frP (pgB bl)) X t m fp
 o : OwnL X wv w l1
 q : wv = .nils ∨ w ∉ t :: fp
 l : w < X.length
theorem Mid.up {t w s Sg N cnt : Nat} {P : List Mis} {wv : PV} {l1 m : List Xt} {bl : List Bk} {fp : List Nat} {X : List AObj} (h : Mid t w s Sg N P wv l1 bl cnt m fp X) : ∀ i, X.length ≤ i → TO t w fp i := fun i hi => ⟨fun hm => by have := @TreeAt.lt (frP (pgB bl)) _ _ _ _ h.tr i hm; omega, by have := h.l; omega⟩
theorem Mid.step {t w s Sg N cnt : Nat} {P : List Mis} {wv : PV} {l1 m m' : List Xt} {bl : List Bk} {fp : List Nat} {X X' : List AObj} (h : Mid t w s Sg N P wv l1 bl cnt m fp X) (hR : @TreeR (frP (pgB bl)) X t fp m' X') : ∃ fp', Mid t w s Sg N P wv l1 bl cnt m' fp' X' := by
 obtain ⟨fp', h1, h2, h3⟩ := @TreeR.ex (frP (pgB bl)) _ _ _ _ _ hR
 have htl := @TreeAt.lt (frP (pgB bl)) _ _ _ _ h.tr t (by simp)
 refine ⟨fp', disk_tree h.d h3 h2, h1, h.o.stay h3 h.q, ?_, by have := h.l; have := h3.1; omega⟩
 rcases h.q with hq | hq
 ·exact .inl hq
 ·refine .inr fun hm => ?_
  rcases List.mem_cons.1 hm with hm | hm
  ·exact hq (by simp [hm])
  ·rcases h2 w hm with h4 | h4
   ·exact hq (by simp [h4])
   ·have := h.l; omega
theorem kept_tail2 {t w s Sg N cnt hi1 : Nat} {P : List Mis} {wv : PV} {l1 l2 : List Xt} {bl : List Bk} {fp : List Nat} {X : List AObj} {a1 : Int} {f : Nat → PV} (h : Mid t w s Sg N P wv l1 bl cnt l2 fp X) (hS1 : StoT (pgB bl) a1 hi1 l1) (h1 : OkL l1) (h2 : OkL l2) (n1 : l1.length ≤ 150) (n2 : l2.length ≤ 150) (hP : PlOk P) (hc : cnt ≤ 100) (h6 : hi1 ≤ 6)
  (f7 : f 7 = .ref N 0) (f9 : f 9 = .ref s 0) (f10 : f 10 = .ref t 0) (f12 : f 12 = wv) (f13 : f 13 = .int .i64 (hi1 : Int)) (f14 : f 14 = .int .i64 a1) : AWP Tryz.prog 0 (pc E4.a 67) (AFin [ARV.t 6] (.bool true)) ⟨f, X⟩ := by
 obtain ⟨hi2, hHi⟩ := @TreeAt.hi (frP (pgB bl)) _ _ _ _ h.tr
 have hw := write_i hHi h2 n2 h.d h.up (fun i hi ht => ht.1 hi) hP hc
 simp only [U4, f7, f9, f10, f12, f13, f14, seval, bA]
 refine callM hw ?_
 rintro r X1 ⟨a2, bl2, cnt2, rfl, hD2, hc2, hpg, hHi2, hS2, hSm⟩
 have hW1 := h.o.stay hSm (h.q.elim .inl fun hq => .inr fun hh => hh.elim (fun h => h.2 rfl) fun h => hq (by simp [h]))
 obtain ⟨stt, opn, ops, full, bads, hk, hd⟩ := hD2
 simp only [U4, f7, f9, f10, f12, f13, f14, seval, bA]
 refine callM (open_i hk.n hd.tx) ?_
 rintro r X2 ⟨x, Xg, sq2, rfl, hx1, hx2, hSo, hst, _⟩
 have hN2 := hk.n.same hSo (fun _ _ _ h => h)
 have hRd : Rd bl2 x X2 := ⟨_, _, _, _, _, _, _, _, hN2, hd.tx, hst.1⟩
 have hwn := worn_r hN2 hd.wn hst (Nat.le_trans (worn_open hd) (hd.b2 hP))
 have hHi3 := @HiAt.same (frP (pgB bl2)) _ _ _ _ _ _ _ hHi2 hSo (fun _ _ h => h)
 have hl6 := hi_le hHi3 (by omega)
 simp only [U4, f7, f9, f10, f12, f13, f14, seval, bA]
 refine callR hwn ?_
 simp only [U4, f7, f9, f10, f12, f13, f14, seval, bA]
 have hS1' : StoT (pgB bl2) a1 hi1 l1 := by
  rcases hS1 with h | ⟨j, n, e, h, hh⟩
  ·exact .inl h
  ·exact .inr ⟨j, n, e, h.up hpg, hh⟩
 refine callM (tread_i hRd hS1' h1 h6) ?_
 rintro r X3 ⟨ta, fa, rfl, hTa, hS3⟩
 simp only [U4, f7, f9, f10, f12, f13, f14, seval, bA]
 have hHi4 := @HiAt.same (frP (pgB bl2)) _ _ _ _ _ _ _ hHi3 hS3 (fun _ _ h => h)
 refine callM (@height_i (frP (pgB bl2)) _ _ _ _ _ hHi4 (by omega)) ?_
 rintro r X3' ⟨rfl, hX3'⟩
 rw [hX3']; clear hX3' X3'
 simp only [U4, f7, f9, f10, f12, f13, f14, seval, bA]
 refine callM (tread_i (hRd.same hS3) hS2 h2 hl6) ?_
 rintro r X4 ⟨tb, fb, rfl, hTb, hS4⟩
 have hend := fun f : Nat → PV => @kept_end (frP (pgB bl2)) X4 ta tb t w fa fb fp l1 l2 wv f (@TreeAt.same frT _ _ _ _ _ _ hTa hS4 (fun _ _ h => h)) hTb (@TreeAt.same (frP (pgB bl2)) _ _ _ _ _ _ (@HiAt.tree (frP (pgB bl2)) _ _ _ _ _ hHi4) hS4 (fun _ _ h => h)) (((hW1.same hSo (fun h => h)).same hS3 (fun h => h)).same hS4 (fun h => h)) h1 h2 (by omega) (by omega)
 generalize AWP Tryz.prog 0 (pc E4.a 61) (AFin [ARV.t 6] (PV.bool true)) = Fin at hend ⊢
 simp only [U4, f7, f9, f10, f12, f13, f14, seval, bA]
 refine hend _ ?_ ?_ ?_ ?_ ?_ ?_ <;> simp only [U4, f7, f9, f10, f12, f13, f14, seval, bA]
theorem kept_tail1 {t s Sg N : Nat} {P : List Mis} {l1 : List Xt} {more : List Lay} {fp : List Nat} {X : List AObj} {f : Nat → PV} (h : Mid t t s Sg N P .nils [] blK 0 l1 fp X) (h1 : OkL l1) (n1 : l1.length ≤ 120) (hP : PlOk P)
  (f1 : f 1 = .slc (more.map rowY)) (f7 : f 7 = .ref N 0) (f9 : f 9 = .ref s 0) (f10 : f 10 = .ref t 0) : AWP Tryz.prog 0 (pc E4.a 71) (AFin [ARV.t 6] (.bool true)) ⟨f, X⟩ := by
 have htl := fun (X : List AObj) (w cnt hi1 : Nat) (wv : PV) (l2 : List Xt) (bl : List Bk) (fp : List Nat) (a1 : Int) (f : Nat → PV) h hS1 h2 n2 hc h6 => @kept_tail2 t w s Sg N cnt hi1 P wv l1 l2 bl fp X a1 f h hS1 h1 h2 (by omega) n2 hP hc h6
 have htr := @TreeAt.lt (frP (pgB blK)) _ _ _ _ h.tr
 simp only [U4, f1, f7, f9, f10, seval, bA]
 refine callM (@all_i (frP (pgB blK)) _ _ _ _ h.tr h1.1) ?_
 rintro wv X1 ⟨m, ho, hm, hSa⟩
 -- the list that was, and where it is
 have hm1 : ∃ w, OwnL X1 wv w l1 ∧ (wv = .nils ∨ w ∉ t :: fp) ∧ w < X1.length ∧ (w = t ∨ X.length ≤ w) := by
  rcases ho with ⟨h0, rfl⟩ | ⟨rfl, ho⟩
  ·exact ⟨t, .inl ⟨h0, rfl⟩, .inl rfl, by have := htr t (by simp); have := hSa.1; omega, .inl rfl⟩
  ·exact ⟨m, .inr ⟨rfl, ho⟩, .inr fun hh => by have := htr m hh; omega, lt_ofN ho, .inr hm⟩
 obtain ⟨w, hW, hwq, hwl, hwt⟩ := hm1
 have hD1 : DiskS (TO t w fp) X1 s Sg N P blK 0 := (h.d.wide (U := TO t w fp) fun i hi ht => ⟨ht.1, by rcases hwt with rfl | hwt; exact ht.2; omega⟩).same hSa (fun _ _ _ h => h)
 have hM : Mid t w s Sg N P wv l1 blK 0 l1 fp X1 := ⟨hD1, @TreeAt.same (frP (pgB blK)) _ _ _ _ _ _ h.tr hSa (fun _ _ h => h), hW, hwq, hwl⟩
 obtain ⟨hi1, hHi⟩ := @TreeAt.hi (frP (pgB blK)) _ _ _ _ hM.tr
 have hl6 := hi_le hHi (by omega)
 clear hW hD1 hSa ho
 simp only [U4, f1, f7, f9, f10, seval, bA]
 refine callM (@height_i (frP (pgB blK)) _ _ _ _ _ hHi (by omega)) ?_
 rintro r X1' ⟨rfl, hX1'⟩
 rw [hX1']; clear hX1' X1'
 simp only [U4, f1, f7, f9, f10, seval, bA]
 refine callM (write_i hHi h1 (by omega) hM.d hM.up (fun i hi ht => ht.1 hi) hP (by omega)) ?_
 rintro r X2 ⟨a1, bl2, cnt2, rfl, hD2, hc2, hpg, hHi2, hS2, hSm⟩
 have hW2 := hM.o.stay hSm (hM.q.elim .inl fun hq => .inr fun hh => hh.elim (fun h => h.2 rfl) fun h => hq (by simp [h]))
 have hM2 : Mid t w s Sg N P wv l1 bl2 cnt2 l1 fp X2 := ⟨hD2, @HiAt.tree (frP (pgB bl2)) _ _ _ _ _ hHi2, hW2, hwq, by have := hSm.1; omega⟩
 clear hD2 hHi2 hSm hW2 hM hHi
 simp only [U4, f1, f7, f9, f10, seval, bA]
 generalize AWP Tryz.prog 0 (pc E4.a 67) (AFin [ARV.t 6] (PV.bool true)) = Tl at htl ⊢
 refine loopF (fun x : Nat × List Xt × List Nat × List AObj => ⟨ofL [(1, .slc (more.map rowY)), (7, .ref N 0), (9, .ref s 0), (10, .ref t 0), (12, wv), (13, .int .i64 (hi1 : Int)), (14, .int .i64 a1), (15, .int .i64 (x.1 : Int))], x.2.2.2⟩)
  (fun x => x.1 ≤ 20 ∧ OkL x.2.1 ∧ x.2.1.length ≤ l1.length + x.1 ∧ Mid t w s Sg N P wv l1 bl2 cnt2 x.2.1 x.2.2.1 x.2.2.2) (fun x => 20 - x.1) (0, l1, fp, X2) ?_ ⟨Nat.zero_le _, h1, Nat.le_refl _, hM2⟩ ?_
 ·simp only [U4, f1, f7, f9, f10, seval, bA]
  all_goals rfl
 rintro ⟨i, m2, fp2, Y⟩ ⟨hi, hok, hlen, hM⟩
 simp only at hi hok hlen hM
 have e1 : IntKind.i64.wrap ((i : Int) + 1) = ((i + 1 : Nat) : Int) := by rw [wrapI (by omega) (by omega)]; omega
 by_cases hlt : i < more.length
 ·have d : decide ((i : Int) < (more.length : Int)) = true := by simpa using hlt
  by_cases hl2 : i < 20
  ·have d2 : decide ((i : Int) < 20) = true := decide_eq_true (by omega)
   have hisl := islV_map (g := rowY) (ob := Y) (fb := []) (k := .i64) (l := more) hlt (rowY_len _)
   obtain ⟨y, hy⟩ : ∃ y, more[i] = y := ⟨_, rfl⟩
   rw [hy] at hisl
   simp only [rowY] at hisl
   simp only [U4, d, d2, hisl, rowY, seval, bA]
   refine callM (@tcut_i (frP (pgB bl2)) _ _ _ _ y.e.fr y.e.n hM.tr hok) ?_
   rintro r Y2 ⟨rfl, hR⟩
   obtain ⟨fp3, hM3⟩ := hM.step hR
   have hcl := cutT_len (f := y.e.fr) (n := y.e.n) hok
   simp only [U4, e1, seval, bA]
   exact ⟨(i + 1, cutT m2 y.e.fr y.e.n, fp3, Y2), rfl, ⟨by omega, cutT_ok hok, by simp only; omega, hM3⟩, by simp only; omega⟩
  ·have d2 : decide ((i : Int) < 20) = false := decide_eq_false (by omega)
   simp only [U4, d, d2, seval, bA]
   refine htl Y w cnt2 hi1 wv m2 bl2 fp2 a1 _ hM hS2 hok (by omega) (by omega) hl6 ?_ ?_ ?_ ?_ ?_ ?_ <;> simp only [U4, seval, bA]
 ·have d : decide ((i : Int) < (more.length : Int)) = false := by simpa using hlt
  simp only [U4, d, seval, bA]
  refine htl Y w cnt2 hi1 wv m2 bl2 fp2 a1 _ hM hS2 hok (by omega) (by omega) hl6 ?_ ?_ ?_ ?_ ?_ ?_ <;> simp only [U4, seval, bA]
theorem kept_rem (a : Int) : ∃ A : Int, IntKind.i64.wrap (1 + (IntKind.i64.wrap (a.tmod 20 + 20)).tmod 20) = A ∧ 1 ≤ A ∧ A ≤ 1000 := by
 refine ⟨_, rfl, ?_⟩
 have h1 : -20 < a.tmod 20 := by have := Int.lt_tmod_of_pos a (b := 20) (by omega); omega
 have h2 : a.tmod 20 < 20 := Int.tmod_lt_of_pos a (by omega)
 rw [wrapI (n := a.tmod 20 + 20) (by omega) (by omega)]
 have h3 : (a.tmod 20 + 20).tmod 20 < 20 := Int.tmod_lt_of_pos _ (by omega)
 have h4 : 0 ≤ (a.tmod 20 + 20).tmod 20 := Int.tmod_nonneg _ (by omega)
 rw [wrapI (by omega) (by omega)]; omega
theorem kept_law (l more : List Lay) (a0 a1 : Int) (hm : l.length ≤ 9223372036854775807) (hm2 : more.length ≤ 9223372036854775807) : PCall Tryz.prog 4 [.slc (l.map rowY), .slc (more.map rowY), .agg [.int .i64 a0, .int .i64 a1]] (.bool true) := by
 refine pcall_dr Tryz.func4 E4.h ?_
 obtain ⟨A, hA, hA1, hA2⟩ := kept_rem a0
 obtain ⟨B, hB, hB1, hB2⟩ := kept_rem a1
 simp only [U4, seval, bA]
 refine callM (New_i (g := 16) _ (by omega) (by omega)) ?_
 rintro r o1 ⟨⟨N, rfl, hN⟩, hS1⟩
 have b1 := hS1.get (j := 0) (x := .box [.int .i64 a0, .int .i64 a1]) rfl (fun h => h)
 have htx : TxOk blK := (dok0 []).tx
 simp only [U4, seval, bA]
 refine callI fine_spec ?_
 simp only [U4, seval, bA]
 refine callM (open_i hN htx) ?_
 rintro r o2 ⟨s, Sg, sq, rfl, hs1, hs2, hS2, hst, hsq⟩
 have hsq0 := hsq found0
 subst hsq0
 have b2 := hS2.get b1 (fun h => h)
 have hll := hst.1
 have hN2 : NandS (fun i => True ∧ i ≠ s ∧ i ≠ Sg) o2 16 N blK 0 [] := (hN.wide (U := fun i => True ∧ i ≠ s ∧ i ≠ Sg) fun i hi _ => ⟨trivial, by omega, by omega⟩).same hS2 (fun _ _ _ h => h)
 have hU2 : ∀ i, o2.length ≤ i → True ∧ i ≠ s ∧ i ≠ Sg := fun i hi => ⟨trivial, by have := lt_ofN hst.1; omega, by have := lt_ofN hst.2.1; omega⟩
 have hpl := Plan_i hN2 hU2 [⟨A, 2, 9, []⟩, ⟨B, 2, 0, []⟩] (by simp) (fun m hm => by
  simp only [List.mem_cons, List.not_mem_nil, or_false] at hm
  rcases hm with rfl | rfl
  ·exact ⟨hA1, hA2⟩
  ·exact ⟨hB1, hB2⟩)
 have hP : PlOk (([⟨A, 2, 9, []⟩, ⟨B, 2, 0, []⟩] : List Mis).map (shM 0)) := ⟨by simp, fun m hm => by
  simp only [List.map_cons, List.map_nil, List.mem_cons, List.not_mem_nil, or_false] at hm
  rcases hm with rfl | rfl <;> exact ⟨rfl, rfl⟩⟩
 generalize ([⟨A, 2, 9, []⟩, ⟨B, 2, 0, []⟩] : List Mis).map (shM 0) = P at *
 simp only [List.map_cons, List.map_nil, rowM] at hpl
 have hr0 : ldB (some (AObj.box [.int .i64 a0, .int .i64 a1])) 0 1 = some [.int .i64 a0] := by simp [ldB]
 have hr1 : ldB (some (AObj.box [.int .i64 a0, .int .i64 a1])) 1 1 = some [.int .i64 a1] := by simp [ldB]
 simp only [U4, b2, hr0, hr1, hA, hB, seval, bA]
 refine callM hpl ?_
 rintro r o3 ⟨hN3, hS3⟩
 have hst3 : StS o3 s Sg N (sttT blK) (-1) 0 := ⟨hS3.get hst.1 (fun h => h.2.1 rfl), hS3.get hst.2.1 (fun h => h.2.2 rfl), hst.2.2⟩
 have hD3 : DiskS (fun _ => True) o3 s Sg N P blK 0 := ⟨_, _, _, _, _, ⟨hN3, hst3, trivial, trivial⟩, dok0 P⟩
 simp only [U4, seval, bA]
 refine callM (@tnew_i (frP (pgB blK)) o3) ?_
 rintro r o4 ⟨rfl, hT4, hS4⟩
 have hM0 : Mid o3.length o3.length s Sg N P .nils [] blK 0 [] [] o4 := ⟨(hD3.wide (U := TO o3.length o3.length []) fun i hi _ => ⟨by simp; omega, by omega⟩).same hS4 (fun _ _ _ h => h), hT4, .inl ⟨rfl, rfl⟩, .inl rfl, @TreeAt.lt (frP (pgB blK)) _ _ _ _ hT4 _ (by simp)⟩
 generalize o3.length = t at *
 have htl := fun (X : List AObj) (m : List Xt) (fp : List Nat) (f : Nat → PV) h h1 n1 => @kept_tail1 t s Sg N P m more fp X f h h1 n1 hP
 clear hN hS1 hS2 hS3 hS4 hN2 hU2 hpl hT4 hD3 hst hst3 hN3 b1 b2
 simp only [U4, seval, bA]
 generalize AWP Tryz.prog 0 (pc E4.a 71) (AFin [ARV.t 6] (PV.bool true)) = Tl at htl ⊢
 refine loopF (fun x : Nat × List Xt × List Nat × List AObj => ⟨ofL [(0, .slc (l.map rowY)), (1, .slc (more.map rowY)), (7, .ref N 0), (9, .ref s 0), (10, .ref t 0), (11, .int .i64 (x.1 : Int))], x.2.2.2⟩)
  (fun x => x.1 ≤ 60 ∧ OkL x.2.1 ∧ x.2.1.length ≤ 2 * x.1 ∧ Mid t t s Sg N P .nils [] blK 0 x.2.1 x.2.2.1 x.2.2.2) (fun x => 60 - x.1) (0, [], [], o4) ?_ ⟨Nat.zero_le _, ⟨trivial, trivial⟩, Nat.le_refl _, hM0⟩ ?_
 ·simp only [U4, seval, bA]
  all_goals rfl
 rintro ⟨i, m2, fp2, Y⟩ ⟨hi, hok, hlen, hM⟩
 simp only at hi hok hlen hM
 have e1 : IntKind.i64.wrap ((i : Int) + 1) = ((i + 1 : Nat) : Int) := by rw [wrapI (by omega) (by omega)]; omega
 by_cases hlt : i < l.length
 ·have d : decide ((i : Int) < (l.length : Int)) = true := by simpa using hlt
  by_cases hl2 : i < 60
  ·have d2 : decide ((i : Int) < 60) = true := decide_eq_true (by omega)
   have hisl := islV_map (g := rowY) (ob := Y) (fb := []) (k := .i64) (l := l) hlt (rowY_len _)
   obtain ⟨y, hy⟩ : ∃ y, l[i] = y := ⟨_, rfl⟩
   rw [hy] at hisl
   simp only [rowY] at hisl
   have hov := @tover_i (frP (pgB blK)) _ _ _ _ y.e hM.tr hok
   simp only [pE, rowE] at hov
   simp only [U4, d, d2, hisl, rowY, seval, bA]
   refine callM hov ?_
   rintro r Y2 ⟨rfl, hR⟩
   obtain ⟨fp3, hM3⟩ := hM.step hR
   have hcl := overT_len (e := y.e) hok
   simp only [U4, e1, seval, bA]
   exact ⟨(i + 1, overT m2 y.e, fp3, Y2), rfl, ⟨by omega, overT_ok hok, by simp only; omega, hM3⟩, by simp only; omega⟩
  ·have d2 : decide ((i : Int) < 60) = false := decide_eq_false (by omega)
   simp only [U4, d, d2, seval, bA]
   refine htl Y m2 fp2 _ hM hok (by omega) ?_ ?_ ?_ ?_ <;> simp only [U4, seval, bA]
 ·have d : decide ((i : Int) < (l.length : Int)) = false := by simpa using hlt
  simp only [U4, d, seval, bA]
  refine htl Y m2 fp2 _ hM hok (by omega) ?_ ?_ ?_ ?_ <;> simp only [U4, seval, bA]
end Go.Proofs.YtdgpiobmncohjaaGreatDoor.Aw
