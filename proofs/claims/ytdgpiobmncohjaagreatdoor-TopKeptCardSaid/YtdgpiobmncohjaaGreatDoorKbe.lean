/-
 The store: a page's place; a page is put, whatever blocks go bad.; The store: a page is put behind the others, whatever blocks go bad; a page is read; what a tree's nodes are put by and read by.; slices.Contains at extents; two lists alike.; Extents let take the place of others.
-/
import Derived.Test.YtdgpiobmncohjaaGreatDoorKbc
import Derived.Test.YtdgpiobmncohjaaGreatDoorKbd
import Derived.Test.YtdgpiobmncohjaaGreatDoorQa
import Derived.Test.YtdgpiobmncohjaaGreatDoorQb
import Derived.Test.YtdgpiobmncohjaaGreatDoorQc
import Derived.Test.YtdgpiobmncohjaaGreatDoorQp
import Derived.Test.YtdgpiobmncohjaaGreatDoorQl
import Derived.Test.YtdgpiobmncohjaaGreatDoorQn
import Derived.Test.YtdgpiobmncohjaaGreatDoorQs
import Derived.Test.YtdgpiobmncohjaaGreatDoorQr
import Derived.Test.YtdgpiobmncohjaaGreatDoorQw
import Derived.Test.YtdgpiobmncohjaaGreatDoorKar
import Derived.Test.YtdgpiobmncohjaaGreatDoorKap
import Derived.Test.YtdgpiobmncohjaaGreatDoorKav
set_option linter.all false
set_option maxRecDepth 100000
namespace Go.Proofs.YtdgpiobmncohjaaGreatDoor.Aw
open Go.RowKit Ar
section
variable {T : Nat → Prop} {ob : List AObj} {N s Sg : Nat} {bl : List Bk} {stt : List Int} {opn sq ops : Int} {P : List Mis} {cnt : Nat} {full bads : List Nat}
theorem DOk.wn (h : DOk P bl stt opn ops cnt full bads) : Wn0 bl := by
 intro k hk
 obtain ⟨j, hj⟩ := List.mem_iff_getElem?.1 hk
 have h1 : j < stt.length := by have := (List.getElem?_eq_some_iff.1 hj).1; rw [h.ls, ← h.lb]; exact this
 exact (h.st j k _ hj (List.getElem?_eq_getElem h1)).1
theorem DOk.ct3 (h : DOk P bl stt opn ops cnt full bads) : Wr.countN (tabS stt) 3 16 ≤ bads.length := by
 refine count_le 16 bads (by rw [h.ls]; omega) fun j hj hs => ?_
 have h1 : j < bl.length := by rw [h.lb]; exact hj
 obtain ⟨_, _, h3⟩ := h.st j _ _ (List.getElem?_eq_getElem h1) hs
 rcases h3 with ⟨_, _, h3⟩ | ⟨_, h3, _⟩ | ⟨_, h3, _⟩ | ⟨_, h3, _⟩
 ·exact h3
 ·omega
 ·omega
 ·omega
theorem set_row {stt : List Int} {ob : List AObj} {b : Nat} (x : Int) (hl : stt.length = 16) (hb : b < 16) : islO (some (lI stt)) 1 Sg 0 16 (.int .i64 (b : Int)) = some (.lref Sg b 0 16) ∧ ∀ ob : List AObj, stL ob Sg (some (lI stt)) b 0 16 [.int .i64 x] = some (.bot, ob.set Sg (lI (stt.set b x))) :=
 ⟨islO_map (g := rowI) (l := stt) (e := 1) (o := Sg) (m := 16) (k := .i64) (i := b) hl.symm (by omega), fun ob => stL_map (g := rowI) (l := stt) (ob := ob) (o := Sg) (e := 1) (len := 16) (off := 0) (i := b) (vs := [.int .i64 x]) (x := x) hl.symm (by omega) (by simp) (by simp [setAt])⟩
theorem seal_i {b : Nat} (hs : StS ob s Sg N stt (b : Int) sq) (hb : b < 16) :
  ICall Tryz.prog 149 [.ref s 0] ob fun r ob' => ob' = (ob.set Sg (lI (stt.set b 2))).set s (.box (cellsO N (.osl Sg 0 16) zer (-1) sq)) := by
 refine icall_dr Tryz.func149 E149.h ?_
 have hb1 := hs.1
 have hS := hs.2.1
 obtain ⟨i1, s1⟩ := set_row (ob := ob) (Sg := Sg) 2 hs.2.2 hb
 have g2 : ∀ a, (ob.set Sg a)[s]? = some (.box (cellsO N (.osl Sg 0 16) zer (b : Int) sq)) := fun a => by rw [List.getElem?_set_ne hs.ne]; exact hb1
 have d0 : decide ((0 : Int) ≤ (b : Int)) = true := by rw [decide_eq_true_eq]; omega
 simp only [U149, hb1, hS, cellsO, i1, s1, g2, d0, seval, bA]
 exact ⟨_, rfl⟩
theorem retire_i {b : Nat} (hs : StS ob s Sg N stt (b : Int) sq) (hb : b < 16) :
  ICall Tryz.prog 121 [.ref s 0, .int .i64 (b : Int)] ob fun r ob' => ob' = (ob.set Sg (lI (stt.set b 3))).set s (.box (cellsO N (.osl Sg 0 16) zer (-1) sq)) := by
 refine icall_dr Tryz.func121 E121.h ?_
 have hb1 := hs.1
 have hS := hs.2.1
 obtain ⟨i1, s1⟩ := set_row (ob := ob) (Sg := Sg) 3 hs.2.2 hb
 have g2 : ∀ a, (ob.set Sg a)[s]? = some (.box (cellsO N (.osl Sg 0 16) zer (b : Int) sq)) := fun a => by rw [List.getElem?_set_ne hs.ne]; exact hb1
 simp only [U121, hb1, hS, cellsO, i1, s1, g2, beq_self_eq_true, seval, bA]
 exact ⟨_, rfl⟩
def PlaceK (T : Nat → Prop) (ob : List AObj) (s Sg N : Nat) (bl : List Bk) (ops sq : Int) (P : List Mis) (cnt : Nat) (bads : List Nat) : PV → List AObj → Prop := fun r ob' =>
 ∃ (b : Nat) (k : Bk) (stt' : List Int) (full' : List Nat), r = .tup [.int .i64 ((16 * b + k.pg.length : Nat) : Int), .nili] ∧ Dk T ob' s Sg N bl stt' (b : Int) ops sq P ∧ DOk P bl stt' (b : Int) ops cnt full' bads ∧ bl[b]? = some k ∧ k.pg.length < 16 ∧ Same ob ob' T
theorem place_i (h : Dk T ob s Sg N bl stt opn ops sq P) (hd : DOk P bl stt opn ops cnt full bads) (hc : cnt < 200) (hb2 : bads.length ≤ 2) :
  ICall Tryz.prog 119 [.ref s 0] ob (PlaceK T ob s Sg N bl ops sq P cnt bads) := by
 refine icall_dr Tryz.func119 E119.h ?_
 -- where a block is open that has room
 have hfin : ∀ (X : List AObj) (f : Nat → PV) (stt1 : List Int) (full1 : List Nat) (b : Nat) (k : Bk), Dk T X s Sg N bl stt1 (b : Int) ops sq P → DOk P bl stt1 (b : Int) ops cnt full1 bads → bl[b]? = some k → k.pg.length < 16 → Same ob X T → f 0 = .ref s 0 →
   AWP Tryz.prog ob.length (pc E119.a 18) (AEnd [.t 2, .t 3] (PlaceK T ob s Sg N bl ops sq P cnt bads)) ⟨f, X⟩ := by
  intro X f stt1 full1 b k hX hdX hk h16 hS f0
  have hb := hX.st.1
  have hb16 : b < 16 := by have := (List.getElem?_eq_some_iff.1 hk).1; rw [hdX.lb] at this; exact this
  have wN : IntKind.i64.wrap (((16 * b : Nat) : Int) + (k.pg.length : Int)) = ((16 * b + k.pg.length : Nat) : Int) := by rw [wrapI (by omega) (by omega)]; omega
  simp only [U119, f0, hb, cellsO, seval, bA]
  refine callI (gfirst_spec hb16) ?_
  simp only [U119, f0, hb, cellsO, seval, bA]
  refine callR (Next_r hX.n hk) ?_
  simp only [U119, wN, seval, bA]
  exact ⟨_, rfl, b, k, stt1, full1, rfl, hX, hdX, hk, h16, hS⟩
 -- whether one is open or not
 have htl : ∀ (X : List AObj) (f : Nat → PV) (stt1 : List Int) (full1 : List Nat) (opn1 : Int), Dk T X s Sg N bl stt1 opn1 ops sq P → DOk P bl stt1 opn1 ops cnt full1 bads → (opn1 = -1 ∨ ∃ (b : Nat) (k : Bk), opn1 = (b : Int) ∧ bl[b]? = some k ∧ k.pg.length < 16) → Same ob X T → f 0 = .ref s 0 →
   AWP Tryz.prog ob.length (pc E119.a 19) (AEnd [.t 2, .t 3] (PlaceK T ob s Sg N bl ops sq P cnt bads)) ⟨f, X⟩ := by
  intro X f stt1 full1 opn1 hX hdX hro hS f0
  have hb := hX.st.1
  simp only [U119, f0, seval, bA]
  generalize AWP Tryz.prog ob.length (pc E119.a 18) (AEnd [.t 2, .t 3] (PlaceK T ob s Sg N bl ops sq P cnt bads)) = Fin at *
  rcases hro with rfl | ⟨b, k, rfl, hk, hk16⟩
  ·obtain ⟨b, hpk, hb0⟩ := pick_fr (hdX.fr hc hb2 rfl)
   obtain ⟨k, hk, hk0, hdo⟩ := hdX.opened rfl hb0
   have hb16 : b < 16 := by have := (List.getElem?_eq_some_iff.1 hk).1; rw [hdX.lb] at this; exact this
   have hlT : (tabS stt1).length = 16 := by simp [tabS, hdX.ls]
   have hr : rowsO (some (.list 3 ((tabS stt1).map Wr.rowB))) 0 16 = some ((tabS stt1).map Wr.rowB) := rowsO_all (by simp [hlT])
   simp only [U119, f0, hb, cellsO, seval, bA]
   refine callM (table_i hX.n hdX.wn hX.st) ?_
   rintro r ob' ⟨m, ex, rfl, rfl, hm⟩
   have hY := hX.app ex
   have hSY : Same ob (X ++ ex) T := hS.trans (Same.app _ _ _)
   generalize X ++ ex = Y at *
   have gb := hY.st.1
   simp only [U119, f0, hm, hr, seval, bA]
   refine callS (Wr.pick_spec (tabS stt1) (by omega)) rfl ?_
   rw [hpk]
   obtain ⟨i1, s1⟩ := set_row (ob := Y) (Sg := Sg) 1 hdX.ls hb16
   obtain ⟨z1, z2⟩ := hY.upd1 (opn' := (b : Int)) (sq' := sq)
   obtain ⟨z3, z4⟩ := z1.upd2 (stt' := stt1.set b 1) (by rw [List.length_set]; exact hdX.ls)
   obtain ⟨Z, hZ⟩ : ∃ Z, Y.set s (.box (cellsO N (.osl Sg 0 16) zer (b : Int) sq)) = Z := ⟨_, rfl⟩
   rw [hZ] at z1 z2 z3 z4
   have gz := z1.st.1
   have gzS := z1.st.2.1
   simp only [cellsO] at hZ
   have d1 : decide ((b : Int) < 0) = false := by simp
   simp only [U119, f0, gb, cellsO, hZ, gz, gzS, d1, i1, s1, seval, bA]
   refine hfin _ _ _ _ b k z3 hdo hk (by rw [hk0]; simp) (hSY.trans (z2.trans z4)) ?_
   simp only [U119, f0, seval, bA]
  ·have d1 : decide ((b : Int) < 0) = false := by simp
   simp only [U119, f0, hb, cellsO, d1, seval, bA]
   refine hfin _ _ _ _ b k hX hdX hk hk16 hS ?_
   simp only [U119, f0, seval, bA]
 have hb := h.st.1
 simp only [U119, seval, bA]
 generalize AWP Tryz.prog ob.length (pc E119.a 19) (AEnd [.t 2, .t 3] (PlaceK T ob s Sg N bl ops sq P cnt bads)) = Tl at *
 rcases hd.op with ⟨ho, _⟩ | ⟨b, k, ho, hk, _, hs1, _⟩
 ·subst ho
  simp only [U119, hb, cellsO, seval, bA]
  refine htl _ _ _ _ _ h hd (.inl rfl) (Same.refl _ _) ?_
  simp only [U119, seval, bA]
 ·subst ho
  have d0 : decide ((0 : Int) ≤ (b : Int)) = true := by rw [decide_eq_true_eq]; omega
  simp only [U119, hb, cellsO, d0, seval, bA]
  refine callR (Next_r h.n hk) ?_
  by_cases h16 : 16 ≤ k.pg.length
  ·have d3 : decide ((16 : Int) ≤ (k.pg.length : Int)) = true := by rw [decide_eq_true_eq]; omega
   have hb16 : b < 16 := by have := (List.getElem?_eq_some_iff.1 hk).1; rw [hd.lb] at this; exact this
   simp only [U119, hb, cellsO, d3, seval, bA]
   refine callM (seal_i h.st hb16) ?_
   rintro r X hX0
   obtain ⟨hX, kX⟩ := h.upd (stt' := stt.set b 2) (opn' := -1) (sq' := sq) (by rw [List.length_set]; exact hd.ls)
   rw [← hX0] at hX kX
   simp only [U119, seval, bA]
   refine htl _ _ _ _ _ hX (hd.sealed rfl hk h16) (.inl rfl) kX ?_
   simp only [U119, seval, bA]
  ·have d3 : decide ((16 : Int) ≤ (k.pg.length : Int)) = false := by rw [decide_eq_false_iff_not]; omega
   simp only [U119, hb, cellsO, d3, seval, bA]
   refine htl _ _ _ _ _ h hd (.inr ⟨b, k, rfl, hk, by omega⟩) (Same.refl _ _) ?_
   simp only [U119, seval, bA]
end
open Go.RowKit Ar
section
variable {T : Nat → Prop} {ob : List AObj} {N s Sg : Nat} {bl : List Bk} {stt : List Int} {opn sq ops : Int} {P : List Mis} {cnt : Nat} {full bads : List Nat}
def PlOk (P : List Mis) : Prop := P.length ≤ 2 ∧ ∀ m ∈ P, m.kd = 2 ∧ m.jk = []
theorem PlOk.cm (h : PlOk P) (k : Int) : ((cM P k).kd = 0 ∨ (cM P k).kd = 2) ∧ (cM P k).jk.length ≤ 1000 ∧ ((cM P k).kd = 2 → ∃ m ∈ P, m.at_ = k) := by
 rcases cM_or P k with ⟨h1, h2⟩ | h1
 ·have := h.2 _ h1
  exact ⟨.inr this.1, by rw [this.2]; simp, fun _ => ⟨_, h1, h2⟩⟩
 ·rw [h1]; exact ⟨.inl rfl, by simp [zeroM], fun h => by simp [zeroM] at h⟩
theorem DOk.b2 (h : DOk P bl stt opn ops cnt full bads) (hP : PlOk P) : bads.length ≤ 2 := Nat.le_trans h.nb (Nat.le_trans (used_le P ops) hP.1)
theorem spoilt_len (m : Mis) (t : List UInt8) : (spoiltS m t).length ≤ 128 := by rw [spoiltS, List.length_take]; omega
theorem WrapAt.same {ob ob' : List AObj} {e : Int} {r : PV} {U : Nat → Prop} (h : WrapAt ob e r) (hS : Same ob ob' U) (hU : ∀ o, r = .ifc 144 (.ref o 0) → ¬ U o) : WrapAt ob' e r := by
 rcases h with h | ⟨h0, o, op, a, h1, h2⟩
 ·exact .inl h
 ·exact .inr ⟨h0, o, op, a, h1, hS.get h2 (hU o h1)⟩
def PutK (T : Nat → Prop) (ob : List AObj) (s Sg N : Nat) (bl : List Bk) (ops sq : Int) (P : List Mis) (cnt : Nat) (t : List UInt8) : PV → List AObj → Prop := fun r ob' =>
 ∃ (i : Nat) (bl2 : List Bk) (stt2 : List Int) (opn2 ops2 : Int) (full2 bads2 : List Nat), r = .tup [.int .i64 (i : Int), .nili] ∧ i < 256 ∧ ops < ops2 ∧ Dk T ob' s Sg N bl2 stt2 opn2 ops2 sq P ∧ DOk P bl2 stt2 opn2 ops2 (cnt + 1) full2 bads2 ∧ PgLe (pgB bl) (pgB bl2) ∧ txB bl2 i = some t ∧ Same ob ob' T
theorem put_s {t : List UInt8} (h : Dk T ob s Sg N bl stt opn ops sq P) (hT : ∀ i, ob.length ≤ i → T i) (hd : DOk P bl stt opn ops cnt full bads) (hP : PlOk P) (hc : cnt < 200) (ht : t.length ≤ 128) :
  ICall Tryz.prog 84 [.ref s 0, .str t] ob (PutK T ob s Sg N bl ops sq P cnt t) := by
 refine icall_dr Tryz.func84 E84.h ?_
 simp only [U84, seval, bA]
 refine loopF (fun x : List AObj × List Bk × List Int × Int × Int × List Nat × List Nat => ⟨ofL [(0, .ref s 0), (1, .str t)], x.1⟩)
  (fun x => Dk T x.1 s Sg N x.2.1 x.2.2.1 x.2.2.2.1 x.2.2.2.2.1 sq P ∧ DOk P x.2.1 x.2.2.1 x.2.2.2.1 x.2.2.2.2.1 cnt x.2.2.2.2.2.1 x.2.2.2.2.2.2 ∧ PgLe (pgB bl) (pgB x.2.1) ∧ Same ob x.1 T ∧ ops ≤ x.2.2.2.2.1) (fun x => 2 - x.2.2.2.2.2.2.length) (ob, bl, stt, opn, ops, full, bads) ?_ ⟨h, hd, PgLe.refl _, Same.refl _ _, Int.le_refl _⟩ ?_
 ·simp only [U84, seval, bA]
  try rfl
 ·rintro ⟨X, bl1, stt1, opn1, ops1, full1, bads1⟩ ⟨hX, hdX, hpg, hS, hops⟩
  simp only at hX hdX hpg hS hops ⊢
  have hb2 := hdX.b2 hP
  simp only [U84, seval, bA]
  refine callR (worn_r hX.n hdX.wn hX.st (Nat.le_trans hdX.ct3 hb2)) ?_
  simp only [U84, seval, bA]
  refine callM (place_i hX hdX hc hb2) ?_
  rintro r O2 ⟨b, k, stt2, full2, rfl, h2, hd2, hk, h16, k2⟩
  have b2 := h2.st.1
  have hS2 := hS.trans k2
  have hT2 : ∀ i, O2.length ≤ i → T i := fun i hi => hT i (by have := hS2.1; omega)
  have hb16 : b < 16 := by have := (List.getElem?_eq_some_iff.1 hk).1; rw [hd2.lb] at this; exact this
  have hkb : k.bad = false := by
   rcases hd2.op with ⟨q1, _⟩ | ⟨b', k', q1, q2, q3, _⟩
   ·omega
   ·have e : b' = b := by omega
    rw [e, hk] at q2; cases q2; exact q3
  obtain ⟨m0, m1, m2⟩ := hP.cm (ops1 + 1)
  have hoc := hd2.ct
  simp only [U84, b2, cellsO, seval, bA]
  refine callM (Program_i (b := b) h2.n (fun i hi => ⟨hT2 i hi, by have := h2.lt; omega, by have := h2.lt; omega⟩) (by omega) hk h16 hkb rfl ht m0 m1 rfl) ?_
  rintro r O3 ⟨h3, k3, w3⟩
  have s3 : StS O3 s Sg N stt2 (b : Int) sq := ⟨k3.get h2.st.1 (fun h => h.2.1 rfl), k3.get h2.st.2.1 (fun h => h.2.2 rfl), h2.st.2.2⟩
  have h3 : Dk T O3 s Sg N _ stt2 (b : Int) (ops1 + 1) sq P := ⟨h3, s3, h2.ts, h2.tg⟩
  have k3 : Same O2 O3 T := k3.mono fun i hi => hi.1
  generalize cM P (ops1 + 1) = m at *
  have hpt : (pageT m t).length ≤ 128 := by unfold pageT; split; exact spoilt_len m t; exact ht
  have hst3 := pgB_set (k' := ⟨k.pg ++ [pageT m t], k.wn, decide (m.kd = 2)⟩) hk rfl
  rcases m0 with m0 | m0
  ·have e0 : errT m = 0 := by simp [errT, m0]
   have e1 : pageT m t = t := by simp [pageT, m0]
   have e2 : decide (m.kd = 2) = false := by simp [m0]
   rw [e0] at w3
   have := w3.zero; subst this
   rw [e1, e2] at h3 hst3
   have hi := is_r w3 (.inl rfl)
   simp only [U84, seval, bA]
   refine callR hi ?_
   simp only [U84, seval, bA]
   exact ⟨_, rfl, _, _, _, _, _, _, _, rfl, by omega, by omega, h3, hd2.put rfl hk h16 ht, hpg.trans hst3, by rw [txB_at (List.getElem?_set_self (List.getElem?_eq_some_iff.1 hk).1) h16]; simp, hS2.trans k3⟩
  ·have e0 : errT m = 41 := by simp [errT, m0]
   have e2 : decide (m.kd = 2) = true := by simp [m0]
   rw [e0] at w3
   rw [e2] at h3 hst3
   have hi := is_r w3 (.inr rfl)
   obtain ⟨o, rfl⟩ := w3.some (by decide)
   have hg := gblock_spec (i := 16 * b + k.pg.length) (by omega)
   rw [show (16 * b + k.pg.length) / 16 = b by omega] at hg
   have b3 := h3.st.1
   simp only [U84, seval, bA]
   refine callR hi ?_
   simp only [U84, b3, cellsO, seval, bA]
   refine callI hg ?_
   simp only [U84, seval, bA]
   refine callM (retire_i h3.st hb16) ?_
   rintro r X4 hX4
   have hd4 := hd2.gone rfl hk h16 hpt (m2 m0)
   obtain ⟨h4, k4⟩ := h3.upd (stt' := stt2.set b 3) (opn' := -1) (sq' := sq) (by rw [List.length_set]; exact hd2.ls)
   rw [← hX4] at h4 k4
   have hn4 := hd4.b2 hP
   rw [List.length_cons] at hn4
   simp only [U84, seval, bA]
   exact ⟨(X4, _, _, _, _, _, _), rfl, ⟨h4, hd4, hpg.trans hst3, (hS2.trans k3).trans k4, by simp only; omega⟩, by simp only [List.length_cons]; omega⟩
def pSeq (p : Pg) (sq : Int) : Pg := ⟨p.kd, p.sp, p.ky, sq, p.bo⟩
theorem writeS_yes {p : Pg} (h : mayB p = true) : writeS p = (sealS (bodyS p), 0) := by rw [writeS, if_pos h]
theorem seal_le {p : Pg} (h : mayB p = true) : (sealS (bodyS p)).length ≤ 128 := by
 have := write_len p
 rwa [writeS_yes h] at this
theorem may_seq {p : Pg} {sq : Int} (h : mayB (pSeq p 0) = true) (h0 : 0 ≤ sq) (h1 : sq ≤ 1000) : mayB (pSeq p sq) = true := by
 obtain ⟨a1, a2, a3, a4, a5, a6, a7, a8, a9⟩ := mayB_iff.1 h
 simp only [pSeq] at a1 a2 a3 a4 a5 a6 a9
 exact mayB_iff.2 ⟨a1, a2, a3, a4, a5, a6, h0, by simp only [pSeq]; omega, a9⟩
def AppK (T : Nat → Prop) (ob : List AObj) (s Sg N : Nat) (bl : List Bk) (sq : Int) (P : List Mis) (cnt : Nat) (p : Pg) : PV → List AObj → Prop := fun r ob' =>
 ∃ (i : Nat) (bl2 : List Bk) (stt2 : List Int) (opn2 ops2 : Int) (full2 bads2 : List Nat), r = .tup [.int .i64 (i : Int), .nili] ∧ i < 256 ∧ Dk T ob' s Sg N bl2 stt2 opn2 ops2 (sq + 1) P ∧ DOk P bl2 stt2 opn2 ops2 (cnt + 1) full2 bads2 ∧ PgLe (pgB bl) (pgB bl2) ∧ pgB bl2 i = some (p.kd, p.bo) ∧ Same ob ob' T
theorem append_i {p : Pg} (h : Dk T ob s Sg N bl stt opn ops sq P) (hT : ∀ i, ob.length ≤ i → T i) (hd : DOk P bl stt opn ops cnt full bads) (hP : PlOk P) (hc : cnt < 200) (hp : mayB (pSeq p 0) = true) (h0 : 0 ≤ sq) (h1 : sq ≤ 1000) :
  ICall Tryz.prog 46 [.ref s 0, pP p] ob (AppK T ob s Sg N bl sq P cnt p) := by
 refine icall_dr Tryz.func46 E46.h ?_
 have hb := fun l => apN h.st.1 l
 have y0 := app0 ob
 have z0 := setA ob
 have d1 : decide ((281474976710655 : Int) < sq) = false := by rw [decide_eq_false_iff_not]; omega
 have hbo := (mayB_iff.1 hp).2.2.2.2.2.2.2.2
 simp only [pSeq] at hbo
 have hp1 := may_seq hp h0 h1
 simp only [U46, hb, y0, z0, rowP, seval, bA]
 refine callI (write_spec (pSeq p 0) (by simp only [pSeq]; omega)) ?_
 rw [writeS_yes hp]
 simp only [U46, hb, y0, z0, rowP, cellsO, d1, seval, bA]
 refine callI (write_spec (pSeq p sq) (by simp only [pSeq]; omega)) ?_
 rw [writeS_yes hp1]
 simp only [U46, hb, y0, z0, rowP, cellsO, d1, seval, bA]
 refine callR (Ops_r (h.n.app _)) ?_
 try simp only [U46, seval, bA]
 refine callM (put_s (h.app _) (fun i hi => hT i (by simp at hi; omega)) hd hP hc (seal_le hp1)) ?_
 rintro r O2 ⟨i, bl2, stt2, opn2, ops2, full2, bads2, rfl, hi, ho, h2, hd2, hpg, htx, k2⟩
 have b2 := h2.st.1
 have k2 : Same ob O2 T := (Same.app _ _ _).trans k2
 simp only [U46, b2, cellsO, seval, bA]
 refine callR (Ops_r h2.n) ?_
 have d2 : decide (ops < ops2) = true := by rw [decide_eq_true_eq]; omega
 have ws : IntKind.i64.wrap (sq + 1) = sq + 1 := wrapI (by omega) (by omega)
 obtain ⟨q1, q2⟩ := h2.upd1 (opn' := opn2) (sq' := sq + 1)
 obtain ⟨Z, hZ⟩ : ∃ Z, O2.set s (.box (cellsO N (.osl Sg 0 16) zer opn2 (sq + 1))) = Z := ⟨_, rfl⟩
 rw [hZ] at q1 q2
 simp only [cellsO] at hZ
 simp only [U46, b2, cellsO, d2, ws, hZ, seval, bA]
 refine ⟨_, rfl, i, bl2, stt2, opn2, ops2, full2, bads2, rfl, hi, q1, hd2, hpg, ?_, k2.trans q2⟩
 rw [pgB, htx]
 simp only [Option.bind_some, read_write _ hp1, if_true]
 rfl
theorem Append_i {p : Pg} (h : Dk T ob s Sg N bl stt opn ops sq P) (hT : ∀ i, ob.length ≤ i → T i) (hd : DOk P bl stt opn ops cnt full bads) (hP : PlOk P) (hc : cnt < 200) (hp : mayB (pSeq p 0) = true) (h0 : 0 ≤ sq) (h1 : sq ≤ 1000) :
  ICall Tryz.prog 11 [.ref s 0, pP p] ob (AppK T ob s Sg N bl sq P cnt p) := by
 refine icall_dr Tryz.func11 E11.h ?_
 have y0 := app0 ob
 have hw := fun o : List AObj => wrap_i o [97, 112, 112, 101, 110, 100] p.ky 0
 have e0 : errV 0 = .nili := rfl
 simp only [e0] at hw
 simp only [U11, y0, rowP, seval, bA]
 have h' := (h.wide (U := fun i => T i ∧ i ≠ ob.length) fun i hi ht => ⟨ht, by omega⟩).app [AObj.box (rowP p)]
 refine callM (append_i (p := p) h' (fun i hi => ⟨hT i (by simp at hi; omega), by simp at hi; omega⟩) hd hP hc hp h0 h1) ?_
 rintro r O2 ⟨i, bl2, stt2, opn2, ops2, full2, bads2, rfl, hi, h2, hd2, hpg, hpi, k2⟩
 have b2 := k2.get (y0 (.box (rowP p))) (fun h => h.2 rfl)
 simp only [U11, b2, rowP, seval, bA]
 refine callM (hw O2) ?_
 rintro r O3 ⟨⟨ex, rfl⟩, w3⟩
 have := w3.zero; subst this
 simp only [U11, seval, bA]
 exact ⟨_, rfl, i, bl2, stt2, opn2, ops2, full2, bads2, rfl, hi, (h2.wide fun _ _ ht => ht.1).app _, hd2, hpg, hpi, ((Same.app _ _ _).trans (k2.mono fun _ ht => ht.1)).trans (Same.app _ _ _)⟩
theorem SRead_r (h : NandS T ob 16 N bl ops P) (hT : TxOk bl) {pv vz : PV} (hs : ob[s]? = some (.box (cellsO N pv vz opn sq))) {at_ : Nat} (ha : at_ < 256) (he : rdE bl at_ = .nili) :
  RCall Tryz.prog 64 [.ref s 0, .int .i64 (at_ : Int)] ob (.tup [pP (rdP bl at_), .nili]) := by
 refine RCall.of (K := fun r ob' => r = .tup [pP (rdP bl at_), .nili] ∧ ∃ ex, ob' = ob ++ ex) ?_ (fun r ob' h => h) rfl
 refine icall_dr Tryz.func64 E64.h ?_
 have y0 : ∀ l : List AObj, (ob ++ l)[ob.length]? = l[0]? := fun l => by rw [List.getElem?_append_right (Nat.le_refl _)]; simp
 have y1 : ∀ l : List AObj, (ob ++ l)[ob.length + 1]? = l[1]? := fun l => by rw [List.getElem?_append_right (by omega)]; simp
 have z0 : ∀ (l : List AObj) a, (ob ++ l).set ob.length a = ob ++ l.set 0 a := fun l a => by rw [List.set_append_right _ _ (Nat.le_refl _)]; simp
 have z1 : ∀ (l : List AObj) a, (ob ++ l).set (ob.length + 1) a = ob ++ l.set 1 a := fun l a => by rw [List.set_append_right _ _ (by omega)]; simp
 have hr := sread_r (h.app [bx0]) hT (apN hs [bx0]) ha
 rw [he] at hr
 simp only [U64, y0, z0, seval, bA]
 refine callR hr ?_
 simp only [U64, y0, y1, z0, z1, rowP, seval, bA]
 refine callR (wrap_r _ _ _) ?_
 try simp only [U64, y0, y1, z0, z1, rowP, seval, bA]
 exact ⟨_, rfl, rfl, _, rfl⟩
def ndP (kd ky : Int) (bo : List UInt8) : Pg := ⟨kd, 5, ky, 0, bo⟩
abbrev pFn (s : Nat) : PV := .fn (.func 22) [.agg [.ref s 0]] []
abbrev gFn (s : Nat) : PV := .fn (.func 26) [.agg [.ref s 0]] []
theorem put_i' {kd ky : Int} {bo : List UInt8} (h : Dk T ob s Sg N bl stt opn ops sq P) (hT : ∀ i, ob.length ≤ i → T i) (hd : DOk P bl stt opn ops cnt full bads) (hP : PlOk P) (hc : cnt < 200) (hk : 1 ≤ kd ∧ kd ≤ 4) (hy : 0 ≤ ky ∧ ky ≤ 4294967295) (hb : bo.length ≤ 100) (h0 : 0 ≤ sq) (h1 : sq ≤ 1000) :
  ICall Tryz.prog 22 [.agg [.ref s 0], .int .i64 kd, .int .i64 ky, .str bo] ob (AppK T ob s Sg N bl sq P cnt (ndP kd ky bo)) := by
 refine icall_dr Tryz.func22 E22.h ?_
 have y0 := app0 ob
 have hm : mayB (pSeq (ndP kd ky bo) 0) = true := mayB_iff.2 ⟨hk.1, hk.2, by simp [ndP, pSeq], by simp [ndP, pSeq], hy.1, hy.2, by simp [pSeq], by simp [pSeq], hb⟩
 have hA := Append_i (p := ndP kd ky bo) (h.app [.box [.ref s 0]]) (fun i hi => hT i (by simp at hi; omega)) hd hP hc hm h0 h1
 simp only [U22, y0, seval, bA]
 refine callM hA ?_
 rintro r O2 ⟨i, bl2, stt2, opn2, ops2, full2, bads2, rfl, hi, h2, hd2, hpg, hpi, k2⟩
 simp only [U22, seval, bA]
 exact ⟨_, rfl, i, bl2, stt2, opn2, ops2, full2, bads2, rfl, hi, h2, hd2, hpg, hpi, (Same.app _ _ _).trans k2⟩
theorem get_r (h : NandS T ob 16 N bl ops P) (hT : TxOk bl) {pv vz : PV} (hs : ob[s]? = some (.box (cellsO N pv vz opn sq))) {i : Nat} (hi : i < 256) {kd : Int} {bo : List UInt8} (hp : pgB bl i = some (kd, bo)) :
  RCall Tryz.prog 26 [.agg [.ref s 0], .int .i64 (i : Int)] ob (.tup [.int .i64 kd, .str bo, .nili]) := by
 refine RCall.of (K := fun r ob' => r = .tup [.int .i64 kd, .str bo, .nili] ∧ ∃ ex, ob' = ob ++ ex) ?_ (fun r ob' h => h) rfl
 refine icall_dr Tryz.func26 E26.h ?_
 have y0 : ∀ l : List AObj, (ob ++ l)[ob.length]? = l[0]? := fun l => by rw [List.getElem?_append_right (Nat.le_refl _)]; simp
 have y1 : ∀ l : List AObj, (ob ++ l)[ob.length + 1]? = l[1]? := fun l => by rw [List.getElem?_append_right (by omega)]; simp
 have z1 : ∀ (l : List AObj) a, (ob ++ l).set (ob.length + 1) a = ob ++ l.set 1 a := fun l a => by rw [List.set_append_right _ _ (by omega)]; simp
 have hx : rdE bl i = .nili ∧ (rdP bl i).kd = kd ∧ (rdP bl i).bo = bo := by
  rw [pgB] at hp
  cases ht : txB bl i with
  | none => rw [ht] at hp; cases hp
  | some t =>
   rw [ht] at hp
   simp only [Option.bind_some] at hp
   split at hp
   ·rename_i h0
    simp only [Option.some.injEq, Prod.mk.injEq] at hp
    rw [rdE, rdP, ht]
    simp only [h0, if_true]
    exact ⟨trivial, hp⟩
   ·cases hp
 obtain ⟨x1, x2, x3⟩ := hx
 simp only [U26, y0, seval, bA]
 refine callR (SRead_r (h.app _) hT (apN hs _) hi x1) ?_
 simp only [U26, y0, y1, z1, rowP, x2, x3, seval, bA]
 exact ⟨_, rfl, rfl, _, rfl⟩
end
open Go.RowKit
theorem xt_eq (a b : Xt) : (a.fr == b.fr && (a.n == b.n && (a.kd == b.kd && a.at_ == b.at_))) = decide (a = b) := by
 rw [Bool.eq_iff_iff]
 cases a; cases b
 simp
theorem idxE_spec (l : List Xt) (e : Xt) (hm : l.length ≤ 9223372036854775807) : PCall Tryz.prog 128 [.slc (l.map rowE), pE e] (.int .i64 (idxS (fun x => decide (e = x)) l)) := by
 refine pcall_dr Tryz.func128 E128.h ?_
 simp only [U128, rowE, seval, bA]
 refine loopF (fun i : Nat => ⟨ofL [(0, .slc (l.map rowE)), (3, .ref 0 0), (7, .int .i64 l.length), (8, .int .i64 i)], [AObj.box (rowE e)]⟩)
  (fun i => i ≤ l.length ∧ ∀ j (h : j < l.length), j < i → decide (e = l[j]) = false) (fun i => l.length - i) 0 ?_ ⟨Nat.zero_le _, fun j _ h => absurd h (by omega)⟩ ?_
 ·simp only [U128, rowE, seval, bA]
  all_goals rfl
 ·intro i ⟨hi, hj⟩
  by_cases h : i < l.length
  ·have d : decide ((i : Int) < (l.length : Int)) = true := by simpa using h
   have e1 : IntKind.i64.wrap ((i : Int) + 1) = ((i + 1 : Nat) : Int) := by rw [wrapI (by omega) (by omega)]; omega
   by_cases he : e = l[i]
   ·have dq := decide_eq_true he
    have hq := xt_eq e l[i]
    rw [dq] at hq
    simp only [U128, d, islV_map (g := rowE) h (rowE_len _), rowE, hq, seval, bA]
    rw [idx_hit (c := fun x => decide (e = x)) h (decide_eq_true he) hj]
   ·have dq := decide_eq_false he
    have hq := xt_eq e l[i]
    rw [dq] at hq
    simp only [U128, d, islV_map (g := rowE) h (rowE_len _), rowE, hq, e1, seval, bA]
    refine ⟨i + 1, rfl, ⟨h, fun j hl hlt => ?_⟩, by omega⟩
    by_cases e : j = i
    ·subst e; exact decide_eq_false he
    ·exact hj j hl (by omega)
  ·have d : decide ((i : Int) < (l.length : Int)) = false := by simpa using h
   simp only [U128, d, seval, bA]
   rw [idx_none (c := fun x => decide (e = x)) fun j hl => hj j hl (by omega)]
theorem con_spec (l : List Xt) (e : Xt) (hm : l.length ≤ 9223372036854775807) : PCall Tryz.prog 94 [.slc (l.map rowE), pE e] (.bool (decide (e ∈ l))) := by
 refine pcall_dr Tryz.func94 E94.h ?_
 simp only [U94, rowE, seval, bA]
 refine callI (idxE_spec l e hm) ?_
 simp only [U94, rowE, seval, bA]
 congr 1
 rcases idx_cases (fun x => decide (e = x)) l with ⟨p, hp, hi, hc, hj⟩ | ⟨hi, hj⟩
 ·rw [hi]
  have : e ∈ l := by have := of_decide_eq_true hc; rw [this]; exact List.getElem_mem hp
  simp [this]
 ·rw [hi]
  have : e ∉ l := fun hm => by
   obtain ⟨j, h, rfl⟩ := List.getElem_of_mem hm
   have := hj j h
   simp at this
  simp [this]
theorem alike_spec (a b : List Xt) (ha : a.length ≤ 9223372036854775807) (hb : b.length ≤ 9223372036854775807) : PCall Tryz.prog 27 [.slc (a.map rowE), .slc (b.map rowE)] (.bool (decide (a = b))) := by
 refine pcall_go Tryz.func27 E27.h ?_
 by_cases hl : a.length = b.length
 ·have d0 : ((a.length : Int) != (b.length : Int)) = false := by simp only [bne_eq_false_iff_eq]; omega
  simp only [U27, d0, seval, bA]
  refine loopF (fun i : Nat => ⟨ofL [(0, .slc (a.map rowE)), (1, .slc (b.map rowE)), (5, .int .i64 i)], []⟩) (fun i => i ≤ a.length ∧ ∀ j (h1 : j < a.length) (h2 : j < b.length), j < i → a[j] = b[j]) (fun i => a.length - i) 0 ?_ ⟨Nat.zero_le _, fun j _ _ h => absurd h (by omega)⟩ ?_
  ·simp only [U27, seval, bA]
   all_goals rfl
  ·intro i ⟨hi, hj⟩
   by_cases h : i < a.length
   ·have d : decide ((i : Int) < (a.length : Int)) = true := by simpa using h
    have h' : i < b.length := by omega
    have e1 : IntKind.i64.wrap ((i : Int) + 1) = ((i + 1 : Nat) : Int) := by rw [wrapI (by omega) (by omega)]; omega
    by_cases he : a[i] = b[i]
    ·have dq := decide_eq_true he
     rw [← xt_eq] at dq
     simp only [U27, d, islV_map (g := rowE) h (rowE_len _), islV_map (g := rowE) h' (rowE_len _), rowE, dq, e1, seval, bA]
     refine ⟨i + 1, rfl, ⟨h, fun j h1 h2 hlt => ?_⟩, by omega⟩
     by_cases e : j = i
     ·subst e; exact he
     ·exact hj j h1 h2 (by omega)
    ·have dq := decide_eq_false he
     rw [← xt_eq] at dq
     have hne : a ≠ b := fun e => he (by subst e; rfl)
     simp only [U27, d, islV_map (g := rowE) h (rowE_len _), islV_map (g := rowE) h' (rowE_len _), rowE, dq, seval, bA]
     simp [hne]
   ·have d : decide ((i : Int) < (a.length : Int)) = false := by simpa using h
    have hab : a = b := List.ext_getElem hl fun j h1 h2 => hj j h1 h2 (by omega)
    simp only [U27, d, seval, bA]
    simp [hab]
 ·have d0 : ((a.length : Int) != (b.length : Int)) = true := by simp only [bne_iff_ne, ne_eq]; omega
  have hne : a ≠ b := fun e => hl (by rw [e])
  simp only [U27, d0, seval, bA]
  simp [hne]
open Go.RowKit Ar
def OwnL (ob : List AObj) (v : PV) (m : Nat) (W : List Xt) : Prop := (W = [] ∧ v = .nils) ∨ (v = .osl m 0 W.length ∧ ob[m]? = some (.list 4 (W.map rowE)))
theorem OwnL.same {ob ob' : List AObj} {T : Nat → Prop} {v : PV} {m : Nat} {W : List Xt} (h : OwnL ob v m W) (hS : Same ob ob' T) (hT : ¬ T m) : OwnL ob' v m W := by
 rcases h with h | ⟨h1, h2⟩
 ·exact .inl h
 ·exact .inr ⟨h1, hS.get h2 hT⟩
theorem Sub.trans {ob ob' : List AObj} {a b c : List Nat} (h : Sub ob a b) (hl : ob.length ≤ ob'.length) (k : Sub ob' b c) : Sub ob a c := by
 intro i hi
 rcases k i hi with h1 | h1
 ·exact h i h1
 ·exact .inr (by omega)
theorem TreeR.trans [Fr] {ob ob1 ob2 : List AObj} {t : Nat} {fp fp1 : List Nat} {l : List Xt} (htl : t < ob.length) (hS : Same ob ob1 (· ∈ t :: fp)) (hsub : Sub ob fp fp1) (h : TreeR ob1 t fp1 l ob2) : TreeR ob t fp l ob2 := by
 obtain ⟨fp', hT, hsub', hS'⟩ := h.ex
 refine ⟨fp', hT, hsub.trans hS.1 hsub', ⟨Nat.le_trans hS.1 hS'.1, fun j hj hn => ?_⟩⟩
 refine (hS'.2 j (Nat.lt_of_lt_of_le hj hS.1) fun hm => ?_).trans (hS.2 j hj hn)
 rcases List.mem_cons.1 hm with rfl | hm
 ·exact hn (by simp)
 ·rcases hsub j hm with h1 | h1
  ·exact hn (by simp [h1])
  ·omega
theorem islO_own {ob : List AObj} {m : Nat} {W : List Xt} {j : Nat} (h : ob[m]? = some (.list 4 (W.map rowE))) (hj : j < W.length) : islO ob[m]? 4 m 0 W.length (.int .i64 (j : Int)) = some (.lref m j 0 W.length) := by
 rw [h]; exact islO_map rfl hj
theorem ldL_own {ob : List AObj} {m : Nat} {W : List Xt} {j : Nat} (h : ob[m]? = some (.list 4 (W.map rowE))) (hj : j < W.length) : ldL ob[m]? j 0 W.length 4 = some (rowE W[j]) := by
 rw [h, ldL_map (g := rowE) rfl hj (by simp [rowE])]; rfl
theorem rowsO_own {ob : List AObj} {m : Nat} {W : List Xt} (h : ob[m]? = some (.list 4 (W.map rowE))) : rowsO ob[m]? 0 W.length = some (W.map rowE) := by
 rw [h]; simp [rowsO]
theorem change_i [Fr] {ob : List AObj} {t m : Nat} {fp : List Nat} {A B W I : List Xt} {wv : PV} (hT : TreeAt ob t (A ++ (W ++ B)) fp) (hc : Chg A B W I) (hw : OwnL ob wv m W) (hm : m ∉ t :: fp) (hWl : W.length ≤ 16777216) (hIl : I.length ≤ 16777216) :
  ICall Tryz.prog 55 [.ref t 0, wv, .slc (I.map rowE)] ob fun _ ob' => TreeR ob t fp (A ++ (I ++ B)) ob' := by
 have htl := hT.lt t (by simp)
 refine icall_dr Tryz.func55 E55.h ?_
 rcases hw with ⟨rfl, rfl⟩ | ⟨rfl, hwm⟩
 ·simp only [U55, seval, bA]
  refine loopF (fun x : Nat => ⟨ofL [(0, .ref t 0), (1, .nils), (2, .slc (I.map rowE)), (10, .nils), (11, .int .i64 (0 : Int)), (12, .int .i64 (0 : Int))], ob⟩) (fun _ => True) (fun _ => 0) 0 ?_ trivial ?_
  ·simp only [U55, seval, bA]
   all_goals rfl
  intro _ _
  simp only [U55, seval, bA]
  refine loopF (fun x : Nat × List AObj => ⟨ofL [(0, .ref t 0), (1, .nils), (25, .slc (I.map rowE)), (26, .int .i64 I.length), (27, .int .i64 x.1)], x.2⟩)
   (fun x => x.1 ≤ I.length ∧ Same ob x.2 (· ∈ t :: fp) ∧ ∃ l fp', PutAt A B [] I x.1 l ∧ TreeAt x.2 t l fp' ∧ Sub ob fp fp') (fun x => I.length - x.1) (0, ob) ?_ ⟨Nat.zero_le _, Same.refl _ _, _, fp, (TakeAt.zero hc).done hc, hT, fun i hi => .inl hi⟩ ?_
  ·simp only [U55, seval, bA]
   all_goals rfl
  rintro ⟨j, ob2⟩ ⟨hj, hS2, l2, fp2, hP2, hT2, hsub2⟩
  simp only at hj hS2 hP2 hT2 hsub2
  by_cases h : j < I.length
  ·have d : decide ((j : Int) < (I.length : Int)) = true := by simpa using h
   have e1 : IntKind.i64.wrap ((j : Int) + 1) = ((j + 1 : Nat) : Int) := by rw [wrapI (by omega) (by omega)]; omega
   have g1 : ∀ (x : AObj), (ob2 ++ [x])[ob2.length]? = some x := fun x => app0 ob2 x
   have g2 := setA ob2
   simp only [U55, d, islV_map (g := rowE) h (rowE_len _), rowE, g1, g2, seval, bA]
   refine callI (PCall.nzA (args' := [.nils, pE I[j]]) (con_spec [] I[j] (by simp)) rfl) ?_
   have hSa : Same ob2 (ob2 ++ [AObj.box (rowE I[j])]) (fun _ => False) := Same.app _ _ _
   simp only [rowE] at hSa
   have hS3 := hS2.trans (hSa.mono (fun _ h => h.elim))
   have hT3 := hT2.same hSa (fun _ _ h => h)
   by_cases hin : I[j] ∈ []
   ·have dc : decide (I[j] ∈ []) = true := decide_eq_true hin
    simp only [U55, dc, e1, seval, bA]
    exact ⟨(j + 1, _), rfl, ⟨h, hS3, l2, fp2, hP2.skip h hin, hT3, hsub2⟩, by simp only; omega⟩
   ·have dc : decide (I[j] ∈ []) = false := decide_eq_false hin
    simp only [U55, dc, e1, rowE, g1, seval, bA]
    have hbe := hc.bf I[j] (by simp)
    have hput := put_i (e := I[j]) hT3 hP2.s (fun x hx => hc.bf x (hP2.sub x hx)) hbe
    simp only [pE, rowE] at hput
    refine callM hput ?_
    intro r ob4 hR
    obtain ⟨fp', hT4, hsub4, hS4⟩ := (TreeR.trans htl hS3 hsub2 hR).ex
    simp only [U55, e1, seval, bA]
    exact ⟨(j + 1, _), rfl, ⟨h, hS4, _, fp', hP2.step hc h hin, hT4, hsub4⟩, by simp only; omega⟩
  ·have d : decide ((j : Int) < (I.length : Int)) = false := by simpa using h
   have hje : j = I.length := by omega
   subst hje
   have hl := hP2.done hc
   subst hl
   simp only [U55, d, seval, bA]
   exact ⟨_, rfl, fp2, hT2, hsub2, hS2⟩
 ·have ho := rowsO_own hwm
  simp only [U55, ho, List.length_map, seval, bA]
  refine loopF (fun x : Nat × List AObj => ⟨ofL [(0, .ref t 0), (1, .osl m 0 W.length), (2, .slc (I.map rowE)), (10, .osl m 0 W.length), (11, .int .i64 W.length), (12, .int .i64 x.1)], x.2⟩)
   (fun x => x.1 ≤ W.length ∧ Same ob x.2 (· ∈ t :: fp) ∧ ∃ l fp', TakeAt A B W I x.1 l ∧ TreeAt x.2 t l fp' ∧ Sub ob fp fp') (fun x => W.length - x.1) (0, ob) ?_ ⟨Nat.zero_le _, Same.refl _ _, _, fp, TakeAt.zero hc, hT, fun i hi => .inl hi⟩ ?_
  ·simp only [U55, seval, bA]
   all_goals rfl
  rintro ⟨j, ob1⟩ ⟨hj, hS1, l1, fp1, hP1, hT1, hsub1⟩
  simp only at hj hS1 hP1 hT1 hsub1
  by_cases h : j < W.length
  ·have d : decide ((j : Int) < (W.length : Int)) = true := by simpa using h
   have e1 : IntKind.i64.wrap ((j : Int) + 1) = ((j + 1 : Nat) : Int) := by rw [wrapI (by omega) (by omega)]; omega
   have g1 : ∀ (x : AObj), (ob1 ++ [x])[ob1.length]? = some x := fun x => app0 ob1 x
   have g2 := setA ob1
   have hw1 := hS1.get hwm hm
   have hw2 : ∀ x : AObj, (ob1 ++ [x])[m]? = ob1[m]? := fun x => by rw [app1 hw1 [x], hw1]
   have hi1 := islO_own hw1 h
   have hl1 := ldL_own hw1 h
   simp only [U55, d, hi1, hl1, hw2, rowE, g1, g2, seval, bA]
   refine callI (con_spec I W[j] (by omega)) ?_
   have hSa : Same ob1 (ob1 ++ [AObj.box (rowE W[j])]) (fun _ => False) := Same.app _ _ _
   simp only [rowE] at hSa
   have hS3 := hS1.trans (hSa.mono (fun _ h => h.elim))
   have hT3 := hT1.same hSa (fun _ _ h => h)
   by_cases hin : W[j] ∈ I
   ·have dc : decide (W[j] ∈ I) = true := decide_eq_true hin
    simp only [U55, dc, e1, seval, bA]
    exact ⟨(j + 1, _), rfl, ⟨h, hS3, l1, fp1, hP1.skip h hin, hT3, hsub1⟩, by simp only; omega⟩
   ·have dc : decide (W[j] ∈ I) = false := decide_eq_false hin
    simp only [U55, dc, e1, rowE, g1, ldB1, seval, bA]
    have hne : l1 ≠ [] := fun e => by have := hP1.has hc h; rw [e] at this; cases this
    refine callM (take_i (f := W[j].fr) hT3 hP1.s hne) ?_
    intro r ob4 hR
    obtain ⟨fp', hT4, hsub4, hS4⟩ := (TreeR.trans htl hS3 hsub1 hR).ex
    simp only [U55, e1, seval, bA]
    exact ⟨(j + 1, _), rfl, ⟨h, hS4, _, fp', hP1.step hc h hin, hT4, hsub4⟩, by simp only; omega⟩
  ·have d : decide ((j : Int) < (W.length : Int)) = false := by simpa using h
   have hje : j = W.length := by omega
   subst hje
   simp only [U55, d, seval, bA]
   refine loopF (fun x : Nat × List AObj => ⟨ofL [(0, .ref t 0), (1, .osl m 0 W.length), (25, .slc (I.map rowE)), (26, .int .i64 I.length), (27, .int .i64 x.1)], x.2⟩)
    (fun x => x.1 ≤ I.length ∧ Same ob x.2 (· ∈ t :: fp) ∧ ∃ l fp', PutAt A B W I x.1 l ∧ TreeAt x.2 t l fp' ∧ Sub ob fp fp') (fun x => I.length - x.1) (0, ob1) ?_ ⟨Nat.zero_le _, hS1, l1, fp1, hP1.done hc, hT1, hsub1⟩ ?_
   ·simp only [U55, seval, bA]
    all_goals rfl
   rintro ⟨j, ob2⟩ ⟨hj, hS2, l2, fp2, hP2, hT2, hsub2⟩
   simp only at hj hS2 hP2 hT2 hsub2
   by_cases h : j < I.length
   ·have d : decide ((j : Int) < (I.length : Int)) = true := by simpa using h
    have e1 : IntKind.i64.wrap ((j : Int) + 1) = ((j + 1 : Nat) : Int) := by rw [wrapI (by omega) (by omega)]; omega
    have g1 : ∀ (x : AObj), (ob2 ++ [x])[ob2.length]? = some x := fun x => app0 ob2 x
    have g2 := setA ob2
    have hw2 := hS2.get hwm hm
    have hw3 : ∀ x : AObj, (ob2 ++ [x])[m]? = some (.list 4 (W.map rowE)) := fun x => app1 hw2 [x]
    have ho3 : rowsO (some (AObj.list 4 (W.map rowE))) 0 W.length = some (W.map rowE) := by simp [rowsO]
    simp only [U55, d, islV_map (g := rowE) h (rowE_len _), rowE, g1, g2, hw3, ho3, seval, bA]
    refine callS (con_spec W I[j] (by omega)) rfl ?_
    have hSa : Same ob2 (ob2 ++ [AObj.box (rowE I[j])]) (fun _ => False) := Same.app _ _ _
    simp only [rowE] at hSa
    have hS3 := hS2.trans (hSa.mono (fun _ h => h.elim))
    have hT3 := hT2.same hSa (fun _ _ h => h)
    by_cases hin : I[j] ∈ W
    ·have dc : decide (I[j] ∈ W) = true := decide_eq_true hin
     simp only [U55, dc, e1, seval, bA]
     exact ⟨(j + 1, _), rfl, ⟨h, hS3, l2, fp2, hP2.skip h hin, hT3, hsub2⟩, by simp only; omega⟩
    ·have dc : decide (I[j] ∈ W) = false := decide_eq_false hin
     simp only [U55, dc, e1, rowE, g1, seval, bA]
     have hbe := hc.bf I[j] (by simp)
     have hput := put_i (e := I[j]) hT3 hP2.s (fun x hx => hc.bf x (hP2.sub x hx)) hbe
     simp only [pE, rowE] at hput
     refine callM hput ?_
     intro r ob4 hR
     obtain ⟨fp', hT4, hsub4, hS4⟩ := (TreeR.trans htl hS3 hsub2 hR).ex
     simp only [U55, e1, seval, bA]
     exact ⟨(j + 1, _), rfl, ⟨h, hS4, _, fp', hP2.step hc h hin, hT4, hsub4⟩, by simp only; omega⟩
   ·have d : decide ((j : Int) < (I.length : Int)) = false := by simpa using h
    have hje : j = I.length := by omega
    subst hje
    have hl := hP2.done hc
    subst hl
    simp only [U55, d, seval, bA]
    exact ⟨_, rfl, fp2, hT2, hsub2, hS2⟩
end Go.Proofs.YtdgpiobmncohjaaGreatDoor.Aw
