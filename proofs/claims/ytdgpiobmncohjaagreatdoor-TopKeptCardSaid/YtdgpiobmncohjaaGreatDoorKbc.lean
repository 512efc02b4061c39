/-
 What the functions of the package 'page' compute, and the document's: reading.; The store: what stands in the array is read; all that can be read; the table of the blocks.; The store: the table of its blocks; whether it is worn out; it is opened; what a geometry gives.
-/
import Derived.Test.YtdgpiobmncohjaaGreatDoorKbb
import Derived.Test.YtdgpiobmncohjaaGreatDoorQa
import Derived.Test.YtdgpiobmncohjaaGreatDoorQb
import Derived.Test.YtdgpiobmncohjaaGreatDoorQc
import Derived.Test.YtdgpiobmncohjaaGreatDoorQp
import Derived.Test.YtdgpiobmncohjaaGreatDoorQl
import Derived.Test.YtdgpiobmncohjaaGreatDoorQn
import Derived.Test.YtdgpiobmncohjaaGreatDoorQs
import Derived.Test.YtdgpiobmncohjaaGreatDoorKaz
set_option linter.all false
set_option maxRecDepth 100000
namespace Go.Proofs.YtdgpiobmncohjaaGreatDoor.Aw
open Go.RowKit
theorem take_page (t : List UInt8) (h : 16 ≤ t.length) : takeS (t.drop 2) [1, 2, 4, 6, 1] = ([leN ((t.drop 2).take 1), leN ((t.drop 3).take 2), leN ((t.drop 5).take 4), leN ((t.drop 9).take 6), leN ((t.drop 15).take 1)], t.drop 16, 0) := by
 have b1 : badW [1, 2, 4, 6, 1] = false := by decide
 rw [takeS_ok b1, goOn_one (by simp; omega), goOn_one (by simp; omega), goOn_one (by simp; omega), goOn_one (by simp; omega), goOn_one (by simp; omega), goOn_nil]
 simp [List.drop_drop]
theorem read_err {s : List UInt8} (h : (openS s).2 ≠ 0) : readS s = (zeroP, (openS s).2) := by rw [readS, if_pos h]
theorem read_short {s : List UInt8} (h : (openS s).2 = 0) (h2 : (openS s).1.length < 16) : readS s = (zeroP, 3) := by rw [readS, if_neg (by simpa using h), if_pos h2]
theorem read_no {s : List UInt8} (h : (openS s).2 = 0) (h2 : ¬ (openS s).1.length < 16) (h3 : ¬ (mayB (pageOf (openS s).1) = true ∧ bodyS (pageOf (openS s).1) = (openS s).1)) : readS s = (zeroP, 3) := by
 rw [readS, if_neg (by simpa using h), if_neg h2, if_neg h3]
theorem read_yes {s : List UInt8} (h : (openS s).2 = 0) (h2 : ¬ (openS s).1.length < 16) (h3 : mayB (pageOf (openS s).1) = true) (h4 : bodyS (pageOf (openS s).1) = (openS s).1) : readS s = (pageOf (openS s).1, 0) := by
 rw [readS, if_neg (by simpa using h), if_neg h2, if_pos ⟨h3, h4⟩]
theorem may_len {t : List UInt8} (h : mayB (pageOf t) = true) : t.length - 16 ≤ 100 := by
 have := (mayB_iff.1 h).2.2.2.2.2.2.2.2
 simpa [pageOf] using this
theorem open_len (s : List UInt8) : (openS s).1.length ≤ s.length := by
 unfold openS; split
 ·simp
 ·split
  ·simp
  ·simp
theorem read_spec (s : List UInt8) (hs : s.length ≤ 1000000) : PCall Tryz.prog 8 [.str s] (.tup [pP (readS s).1, .int .i64 (readS s).2]) := by
 refine pcall_go Tryz.func8 E8.h ?_
 simp only [U8, seval, bA]
 refine callI (open_spec s hs) ?_
 by_cases h0 : (openS s).2 = 0
 ·have d0 : ((openS s).2 != 0) = false := by simpa using h0
  have hol := open_len s
  have hyes := read_yes h0
  have hno := read_no h0
  have hshort := read_short h0
  generalize (openS s).1 = t at hol hyes hno hshort
  by_cases h16 : t.length < 16
  ·have d1 : decide ((t.length : Int) < 16) = true := by simp; omega
   rw [hshort h16]
   simp only [U8, d0, d1, seval, bA]
   rfl
  ·have d1 : decide ((t.length : Int) < 16) = false := by simp; omega
   have g1 : sstrV (.str t) (some none) (some (some 2)) = some (.str (t.take 2)) := sstrV_to (h := 2) (by omega)
   have g2 : sstrV (.str t) (some (some 2)) (some none) = some (.str (t.drop 2)) := sstrV_from (i := 2) (by omega)
   by_cases h2 : t.take 2 = [83, 99]
   ·have d2 : (t.take 2 == [83, 99]) = true := by simpa using h2
    simp only [U8, d0, d1, g1, d2, g2, seval, bA]
    refine callI widths_spec ?_
    simp only [U8, seval, bA]
    refine callI (take_spec (t.drop 2) [1, 2, 4, 6, 1] (by simp; omega) (by simp)) ?_
    rw [take_page t (by omega)]
    have l1 := leN_lt ((t.drop 2).take 1)
    have l2 := leN_lt ((t.drop 3).take 2)
    have l3 := leN_lt ((t.drop 5).take 4)
    have l4 := leN_lt ((t.drop 9).take 6)
    rw [show ((t.drop 2).take 1).length = 1 by simp; omega] at l1
    rw [show ((t.drop 3).take 2).length = 2 by simp; omega] at l2
    rw [show ((t.drop 5).take 4).length = 4 by simp; omega] at l3
    rw [show ((t.drop 9).take 6).length = 6 by simp; omega] at l4
    have hsame := body_same t (by omega)
    have hpo : pageOf t = ⟨(leN ((t.drop 2).take 1) : Int), (leN ((t.drop 3).take 2) : Int), (leN ((t.drop 5).take 4) : Int), (leN ((t.drop 9).take 6) : Int), t.drop 16⟩ := rfl
    have hml := may_len (t := t)
    have hBl : (t.drop 16).length = t.length - 16 := by simp
    generalize leN ((t.drop 2).take 1) = n1 at *
    generalize leN ((t.drop 3).take 2) = n2 at *
    generalize leN ((t.drop 5).take 4) = n3 at *
    generalize leN ((t.drop 9).take 6) = n4 at *
    generalize leN ((t.drop 15).take 1) = n5 at *
    generalize t.drop 16 = B at *
    have i0 : ∀ ob fb, islV ob fb 1 (.slc (rowsN .u64 [n1, n2, n3, n4, n5])) (.int .i64 0) = some (.fptr [.int .u64 (n1 : Int)]) := fun _ _ => rfl
    have i1 : ∀ ob fb, islV ob fb 1 (.slc (rowsN .u64 [n1, n2, n3, n4, n5])) (.int .i64 1) = some (.fptr [.int .u64 (n2 : Int)]) := fun _ _ => rfl
    have i2 : ∀ ob fb, islV ob fb 1 (.slc (rowsN .u64 [n1, n2, n3, n4, n5])) (.int .i64 2) = some (.fptr [.int .u64 (n3 : Int)]) := fun _ _ => rfl
    have i3 : ∀ ob fb, islV ob fb 1 (.slc (rowsN .u64 [n1, n2, n3, n4, n5])) (.int .i64 3) = some (.fptr [.int .u64 (n4 : Int)]) := fun _ _ => rfl
    have i4 : ∀ ob fb, islV ob fb 1 (.slc (rowsN .u64 [n1, n2, n3, n4, n5])) (.int .i64 4) = some (.fptr [.int .u64 (n5 : Int)]) := fun _ _ => rfl
    have eB : IntKind.u64.wrap (B.length : Int) = (B.length : Int) := wrapU (by omega) (by omega)
    have c1 : IntKind.i64.wrap (n1 : Int) = (n1 : Int) := wrapI (by omega) (by omega)
    have c2 : IntKind.i64.wrap (n2 : Int) = (n2 : Int) := wrapI (by omega) (by omega)
    have c3 : IntKind.i64.wrap (n3 : Int) = (n3 : Int) := wrapI (by omega) (by omega)
    have c4 : IntKind.i64.wrap (n4 : Int) = (n4 : Int) := wrapI (by omega) (by omega)
    by_cases h5 : B.length = n5
    ·have d3 : ((B.length : Int) != (n5 : Int)) = false := by simp only [bne_eq_false_iff_eq]; omega
     simp only [U8, i0, i1, i2, i3, i4, eB, d3, c1, c2, c3, c4, seval, bA]
     refine callI (may_spec ⟨(n1 : Int), (n2 : Int), (n3 : Int), (n4 : Int), B⟩) ?_
     cases hm : mayB ⟨(n1 : Int), (n2 : Int), (n3 : Int), (n4 : Int), B⟩ with
     | true =>
      rw [← hpo] at hm
      rw [hyes h16 hm ((hsame (hml hm)).2 ⟨h2, by omega⟩)]
      simp only [U8, seval, bA]
      rw [hpo]; rfl
     | false =>
      rw [← hpo] at hm
      rw [hno h16 (fun h => by rw [hm] at h; exact absurd h.1 (by simp))]
      simp only [U8, seval, bA]
      rfl
    ·have d3 : ((B.length : Int) != (n5 : Int)) = true := by simp only [bne_iff_ne, ne_eq]; omega
     rw [hno h16 (fun h => h5 (by have := ((hsame (hml h.1)).1 h.2).2; omega))]
     simp only [U8, i4, eB, d3, seval, bA]
     rfl
   ·have d2 : (t.take 2 == [83, 99]) = false := by simpa using h2
    rw [hno h16 (fun h => h2 ((body_same t (by omega) (may_len h.1)).1 h.2).1)]
    simp only [U8, d0, d1, g1, d2, seval, bA]
    rfl
 ·have d0 : ((openS s).2 != 0) = true := by simpa using h0
  rw [read_err h0]
  simp only [U8, d0, seval, bA]
  rfl
open Go.RowKit Ar
theorem WrapAt.zero {ob : List AObj} {r : PV} (h : WrapAt ob 0 r) : r = .nili := by
 rcases h with ⟨_, h⟩ | ⟨h, _⟩
 ·exact h
 ·exact absurd rfl h
theorem WrapAt.some {ob : List AObj} {e : Int} {r : PV} (h : WrapAt ob e r) (he : e ≠ 0) : ∃ o, r = .ifc 144 (.ref o 0) := by
 rcases h with ⟨h, _⟩ | ⟨_, o, _, _, h, _⟩
 ·exact absurd h he
 ·exact ⟨o, h⟩
theorem same_ex {ob ob' : List AObj} (h : Same ob ob' (fun _ => False)) : ∃ ex, ob' = ob ++ ex := by
 refine ⟨ob'.drop ob.length, ?_⟩
 have h1 := h.1
 apply List.ext_getElem?
 intro i
 by_cases hi : i < ob.length
 ·rw [h.2 i hi (fun h => h), List.getElem?_append_left hi]
 ·rw [List.getElem?_append_right (by omega), List.getElem?_drop]; congr 1; omega
theorem Same.hi {ob O : List AObj} {U : Nat → Prop} {m : Nat} {b : AObj} (h : Same ob O U) (hm : ob.length ≤ m) : Same ob (O.set m b) U := by
 refine ⟨by rw [List.length_set]; exact h.1, fun j hj hn => ?_⟩
 rw [List.getElem?_set_ne (by omega)]; exact h.2 j hj hn
theorem no_ex {ob ob' : List AObj} {U : Nat → Prop} (h : ∃ ex, ob' = ob ++ ex) : Same ob ob' U := by
 obtain ⟨ex, rfl⟩ := h; exact Same.app _ _ _
def cellsO (N : Nat) (pv vz : PV) (opn sq : Int) : List PV := [.ref N 0, .int .i64 16, .int .i64 16, .int .i64 256, .int .i64 2, .int .i64 10, .int .i64 7, .int .i64 8, pv, vz, .int .i64 opn, .int .i64 sq]
abbrev rowI (x : Int) : List PV := [.int .i64 x]
abbrev lI (l : List Int) : AObj := .list 1 (l.map rowI)
def zer : PV := .slc (List.replicate 16 [.int .i64 0])
theorem rep_isl {OB : List AObj} {fb : List Nat} {n i : Nat} (h : i < n) : islV OB fb 1 (.slc (List.replicate n [.int .i64 0])) (.int .i64 (i : Int)) = some (.fptr [.int .i64 0]) := by
 rw [islV_slc (by rw [List.length_replicate]; exact h) (by rw [List.getElem_replicate]; rfl), List.getElem_replicate]
theorem zer_isl {OB : List AObj} {fb : List Nat} {i : Nat} (h : i < 16) : islV OB fb 1 zer (.int .i64 (i : Int)) = some (.fptr [.int .i64 0]) := rep_isl h
section
variable {T : Nat → Prop} {ob : List AObj} {N : Nat} {bl : List Bk} {ops : Int} {P : List Mis}
theorem bl_get (h : NandS T ob 16 N bl ops P) {b : Nat} (hb : b < 16) : ∃ k, bl[b]? = some k := ⟨bl[b]'(by rw [h.len]; exact hb), List.getElem?_eq_getElem _⟩
def fstS (k : Bk) : Int := if k.bad = true then 3 else if k.pg = [] then 0 else 2
theorem stfirst_r (h : NandS T ob 16 N bl ops P) {b : Nat} {k : Bk} (hb : bl[b]? = some k) : RCall Tryz.prog 40 [.ref N 0, .int .i64 (b : Int)] ob (.int .i64 (fstS k)) := by
 refine RCall.ofR ?_ rfl
 refine icall_dr Tryz.func40 E40.h ?_
 have h1 := Bad_r h hb
 simp only [U40, seval, bA]
 refine callR h1 ?_
 cases hk : k.bad with
 | true =>
  simp only [U40, seval, bA]
  exact ⟨_, rfl, isR (by rw [fstS, if_pos hk])⟩
 | false =>
  simp only [U40, seval, bA]
  refine callR (Next_r h hb) ?_
  by_cases hl : k.pg = []
  ·have d : ((k.pg.length : Int) == 0) = true := by simp [hl]
   simp only [U40, d, seval, bA]
   exact ⟨_, rfl, isR (by rw [fstS, if_neg (by simp [hk]), if_pos hl])⟩
  ·have d : ((k.pg.length : Int) == 0) = false := by simpa using hl
   simp only [U40, d, seval, bA]
   exact ⟨_, rfl, isR (by rw [fstS, if_neg (by simp [hk]), if_neg hl])⟩
def rdP (bl : List Bk) (i : Nat) : Pg := match txB bl i with
 | none => zeroP
 | some t => if (readS t).2 = 0 then (readS t).1 else zeroP
def rdE (bl : List Bk) (i : Nat) : PV := match txB bl i with
 | none => .ifc 36 (.int .i64 42)
 | some t => if (readS t).2 = 0 then .nili else .ifc 36 (.int .i64 (readS t).2)
theorem rdE_or (bl : List Bk) (i : Nat) : rdE bl i = .nili ∨ ∃ k, rdE bl i = .ifc 36 (.int .i64 k) := by
 unfold rdE; split
 ·exact .inr ⟨_, rfl⟩
 ·split
  ·exact .inl rfl
  ·exact .inr ⟨_, rfl⟩
abbrev bx0 : AObj := .box [.int .i64 0, .int .i64 0, .int .i64 0, .int .i64 0, .str []]
theorem sread_r {s : Nat} {pv vz : PV} {opn sq : Int} (h : NandS T ob 16 N bl ops P) (hT : TxOk bl) (hs : ob[s]? = some (.box (cellsO N pv vz opn sq))) {at_ : Nat} (ha : at_ < 256) :
  RCall Tryz.prog 76 [.ref s 0, .int .i64 (at_ : Int)] ob (.tup [pP (rdP bl at_), rdE bl at_]) := by
 refine RCall.of (K := fun r ob' => r = .tup [pP (rdP bl at_), rdE bl at_] ∧ ∃ ex, ob' = ob ++ ex) ?_ (fun r ob' h => h) (by rcases rdE_or bl at_ with h | ⟨k, h⟩ <;> rw [h] <;> rfl)
 suffices hh : ICall Tryz.prog 76 [.ref s 0, .int .i64 (at_ : Int)] ob fun r ob' => r = .tup [pP (rdP bl at_), rdE bl at_] ∧ Same ob ob' (fun _ => False) by
  refine callM hh ?_
  rintro r ob' ⟨h1, h2⟩
  exact ⟨h1, same_ex h2⟩
 refine icall_dr Tryz.func76 E76.h ?_
 obtain ⟨k, hk⟩ := bl_get h (b := at_ / 16) (by omega)
 have htx : txB bl at_ = k.pg[at_ % 16]? := by rw [txB, hk]; rfl
 have hs' := apN hs [bx0]
 have hRd := Read_i (h.app [bx0]) hk (k := at_ % 16) (by omega) (show (at_ : Int) = ((16 * (at_ / 16) + at_ % 16 : Nat) : Int) by omega)
 simp only [U76, hs', cellsO, seval, bA]
 refine callM hRd ?_
 rintro r O2 ⟨r2, rfl, hex, w2⟩
 have hS2 : Same (ob ++ [bx0]) O2 (fun _ => False) := no_ex hex
 have b2 : O2[ob.length]? = some bx0 := hS2.get (app0 _ _) (fun h => h)
 have hS : Same ob O2 (fun _ => False) := (Same.app _ _ _).trans hS2
 have s2 : ∀ c, (O2.set ob.length c)[ob.length]? = some c := fun c => set_get b2
 by_cases hl : at_ % 16 < k.pg.length
 ·rw [if_pos hl] at w2
  have := w2.zero; subst this
  obtain ⟨t, ht⟩ : ∃ t, k.pg[at_ % 16] = t := ⟨_, rfl⟩
  have hg : k.pg[at_ % 16]? = some t := by rw [List.getElem?_eq_getElem hl, ht]
  have htl := hT k (List.mem_of_getElem? hk) t (List.mem_of_getElem? hg)
  rw [List.getD_eq_getElem?_getD, hg, Option.getD_some]
  rw [hg] at htx
  simp only [U76, seval, bA]
  refine callI (read_spec t (by omega)) ?_
  have y0 : ∀ l : List AObj, (O2 ++ l)[O2.length]? = l[0]? := fun l => by rw [List.getElem?_append_right (Nat.le_refl _)]; simp
  have z0 : ∀ (l : List AObj) a, (O2 ++ l).set O2.length a = O2 ++ l.set 0 a := fun l a => by rw [List.set_append_right _ _ (Nat.le_refl _)]; simp
  have yb : ∀ l : List AObj, (O2 ++ l)[ob.length]? = some bx0 := fun l => apN b2 l
  have sb : ∀ (l : List AObj) c, ((O2 ++ l).set ob.length c)[ob.length]? = some c := fun l c => set_get (yb l)
  have fin : ∀ (l : List AObj) (c : List PV), Same ob ((O2 ++ l).set ob.length (.box c)) (fun _ => False) := fun l c => (hS.trans (Same.app _ _ _)).hi (Nat.le_refl _)
  obtain ⟨q, hq⟩ : ∃ q, (readS t).1 = q := ⟨_, rfl⟩
  obtain ⟨hh, hhh⟩ : ∃ h, (readS t).2 = h := ⟨_, rfl⟩
  have hv : rdP bl at_ = if hh = 0 then q else zeroP := by rw [rdP, htx]; simp only [hq, hhh]
  have hv' : rdE bl at_ = if hh = 0 then .nili else .ifc 36 (.int .i64 hh) := by rw [rdE, htx]; simp only [hhh]
  rw [hq, hhh, hv, hv']
  by_cases he : hh = 0
  ·have d : (hh != 0) = false := by simp [he]
   rw [if_pos he, if_pos he]
   simp only [U76, d, y0, z0, yb, sb, rowP, s2, seval, bA]
   exact ⟨_, rfl, rfl, fin _ _⟩
  ·have d : (hh != 0) = true := by simp [he]
   rw [if_neg he, if_neg he]
   simp only [U76, d, y0, z0, yb, sb, rowP, s2, zeroP, seval, bA]
   exact ⟨_, rfl, rfl, fin _ _⟩
 ·rw [if_neg hl] at w2
  rw [List.getElem?_eq_none (by omega)] at htx
  have hv : rdP bl at_ = zeroP := by rw [rdP, htx]
  have hv' : rdE bl at_ = .ifc 36 (.int .i64 42) := by rw [rdE, htx]
  rw [hv, hv']
  obtain ⟨o, rfl⟩ := w2.some (by decide)
  simp only [U76, seval, bA]
  refine callR (code_r w2) ?_
  simp only [U76, b2, s2, rowP, zeroP, seval, bA]
  exact ⟨_, rfl, rfl, hS.hi (Nat.le_refl _)⟩
def rowF (x : Nat × Pg) : List PV := .int .i64 (x.1 : Int) :: rowP x.2
def okE : PV → Bool
 | .nili => true
 | _ => false
def foundB (bl : List Bk) : Nat → List (Nat × Pg)
 | 0 => []
 | n + 1 => if okE (rdE bl n) = true then foundB bl n ++ [(n, rdP bl n)] else foundB bl n
theorem foundB_le (bl : List Bk) : ∀ n, (foundB bl n).length ≤ n
 | 0 => Nat.le_refl _
 | n + 1 => by
  have := foundB_le bl n
  rw [foundB]; split
  ·simp; omega
  ·omega
abbrev lF (l : List (Nat × Pg)) : AObj := .list 6 (l.map rowF)
theorem scan_i {s : Nat} {pv vz : PV} {opn sq : Int} (h : NandS T ob 16 N bl ops P) (hT : TxOk bl) (hs : ob[s]? = some (.box (cellsO N pv vz opn sq))) :
  ICall Tryz.prog 41 [.ref s 0] ob fun r ob' => ∃ m, r = .osl m 0 (foundB bl 256).length ∧ ob'[m]? = some (lF (foundB bl 256)) ∧ ob.length ≤ m ∧ Same ob ob' (fun _ => False) := by
 refine icall_dr Tryz.func41 E41.h ?_
 have hs' := apN hs [.list 6 []]
 obtain ⟨m, hm⟩ : ∃ m, ob.length = m := ⟨_, rfl⟩
 have hm0 : (ob ++ [AObj.list 6 []])[m]? = some (.list 6 []) := by subst hm; simp
 have hS0 : Same ob (ob ++ [AObj.list 6 []]) (fun _ => False) := Same.app _ _ _
 simp only [U41, hs', cellsO, hm, seval, bA]
 obtain ⟨O1, hO1⟩ : ∃ O1, ob ++ [AObj.list 6 []] = O1 := ⟨_, rfl⟩
 refine loopF (fun x : Nat × List AObj => ⟨ofL [(0, .ref s 0), (3, .osl m 0 (foundB bl x.1).length), (11, .int .i64 256), (12, .int .i64 (x.1 : Int))], x.2⟩)
  (fun x => x.1 ≤ 256 ∧ Same ob x.2 (fun _ => False) ∧ x.2[m]? = some (lF (foundB bl x.1))) (fun x => 256 - x.1) (0, O1) ?_ ⟨by omega, by rw [← hO1]; exact hS0, by rw [← hO1]; exact hm0⟩ ?_
 ·simp only [U41, seval, bA]
  rw [← hO1]; rfl
 ·clear hm0 hs' hS0 hO1
  rintro ⟨i, X⟩ ⟨hi, hS, hmX⟩
  simp only at hi hS hmX ⊢
  have w1 : IntKind.i64.wrap ((i : Int) + 1) = ((i + 1 : Nat) : Int) := by rw [wrapI (by omega) (by omega)]; omega
  have hle := foundB_le bl i
  have hsX := hS.get hs (fun h => h)
  have hX : NandS T X 16 N bl ops P := h.same hS (fun _ _ _ h => h)
  by_cases hlt : i < 256
  ·have d : decide ((i : Int) < 256) = true := by simp; omega
   simp only [U41, d, seval, bA]
   refine callR (sread_r hX hT hsX hlt) ?_
   have y0 : ∀ l : List AObj, (X ++ l)[X.length]? = l[0]? := fun l => by rw [List.getElem?_append_right (Nat.le_refl _)]; simp
   have z0 : ∀ (l : List AObj) a, (X ++ l).set X.length a = X ++ l.set 0 a := fun l a => by rw [List.set_append_right _ _ (Nat.le_refl _)]; simp
   obtain ⟨q, hq⟩ : ∃ q, rdP bl i = q := ⟨_, rfl⟩
   obtain ⟨L, hL⟩ : ∃ L, foundB bl i = L := ⟨_, rfl⟩
   rw [hL] at hmX hle ⊢
   rw [hq]
   rcases rdE_or bl i with ok | ⟨k, ok⟩
   ·have hf : foundB bl (i + 1) = L ++ [(i, q)] := by rw [foundB, ok, hL, hq]; exact if_pos rfl
    rw [ok]
    have ap : ∀ (l : List AObj) fb nw, fb.contains m = false → appO (X ++ l) fb nw 6 (.osl m 0 L.length) (some [[.int .i64 (i : Int), .int .i64 q.kd, .int .i64 q.sp, .int .i64 q.ky, .int .i64 q.sq, .str q.bo]]) = some (.osl m 0 (L.length + 1), (X ++ l).set m (lF (L ++ [(i, q)]))) := fun l fb nw hf => by
     rw [appO_osl hf (apN hmX l) (by simp) (by simp; omega) (by simp [rowsOk]) (by simp)]; simp [lF, rowF, rowP]
    have lm := lt_ofN hmX
    have qm : (m == X.length) = false := by simp; omega
    simp only [U41, y0, z0, rowP, ap, qm, w1, seval, bA]
    refine ⟨(i + 1, (X ++ [AObj.box (rowP q)]).set m (lF (L ++ [(i, q)]))), ?_, ⟨hlt, (hS.trans (Same.app _ _ _)).hi (by omega), ?_⟩, by simp only; omega⟩
    ·rw [hf]; simp [rowP]
    ·rw [hf]; exact set_get (apN hmX _)
   ·have hf : foundB bl (i + 1) = L := by rw [foundB, ok, hL]; exact if_neg (by simp [okE])
    rw [ok]
    simp only [U41, y0, z0, rowP, w1, seval, bA]
    refine ⟨(i + 1, X ++ [AObj.box (rowP q)]), ?_, ⟨hlt, hS.trans (Same.app _ _ _), ?_⟩, by simp only; omega⟩
    ·rw [hf]; rfl
    ·rw [hf]; exact apN hmX _
  ·have d : decide ((i : Int) < 256) = false := by simp; omega
   have : i = 256 := by omega
   subst this
   simp only [U41, d, seval, bA]
   exact ⟨_, rfl, _, rfl, hmX, by omega, hS⟩
end
open Go.RowKit Ar
theorem gcheck_spec : PCall Tryz.prog 72 [.agg [.int .i64 16, .int .i64 16]] (.int .i64 0) := by
 refine pcall_dr Tryz.func72 E72.h ?_
 simp only [U72, seval, bA]
theorem numbers_spec : PCall Tryz.prog 73 [.agg [.int .i64 16, .int .i64 16]] (.agg [.int .i64 256, .int .i64 2, .int .i64 10, .int .i64 21, .int .i64 7]) := by
 refine pcall_dr Tryz.func73 E73.h ?_
 simp only [U73, seval, bA]
 rfl
theorem plan_spec : PCall Tryz.prog 39 [.agg [.int .i64 16, .int .i64 16]] (.tup [.agg [.int .i64 256, .int .i64 2, .int .i64 10, .int .i64 7, .int .i64 8], .int .i64 0]) := by
 refine pcall_dr Tryz.func39 E39.h ?_
 simp only [U39, seval, bA]
 refine callI gcheck_spec ?_
 simp only [U39, seval, bA]
 refine callI numbers_spec ?_
 simp only [U39, seval, bA]
 rfl
theorem gfirst_spec {b : Nat} (hb : b < 16) : PCall Tryz.prog 151 [.agg [.int .i64 16, .int .i64 16], .int .i64 (b : Int)] (.int .i64 ((16 * b : Nat) : Int)) := by
 refine pcall_dr Tryz.func151 E151.h ?_
 have d1 : decide ((b : Int) < 0) = false := by simp
 have d2 : decide ((16 : Int) ≤ (b : Int)) = false := by simp; omega
 have w : IntKind.i64.wrap ((b : Int) * 16) = ((16 * b : Nat) : Int) := by rw [wrapI (by omega) (by omega)]; omega
 simp only [U151, seval, bA]
 refine callI gcheck_spec ?_
 simp only [U151, d1, d2, w, seval, bA]
theorem gblock_spec {i : Nat} (hi : i < 256) : PCall Tryz.prog 122 [.agg [.int .i64 16, .int .i64 16], .int .i64 (i : Int)] (.int .i64 ((i / 16 : Nat) : Int)) := by
 refine pcall_dr Tryz.func122 E122.h ?_
 have d1 : decide ((i : Int) < 0) = false := by simp
 have d2 : decide ((256 : Int) ≤ (i : Int)) = false := by simp; omega
 have w0 : IntKind.i64.wrap 256 = 256 := by decide
 have w : IntKind.i64.wrap ((i : Int).tdiv 16) = ((i / 16 : Nat) : Int) := by
  rw [Int.tdiv_eq_ediv_of_nonneg (by omega), wrapI (by omega) (by omega)]; omega
 simp only [U122, seval, bA]
 refine callI gcheck_spec ?_
 simp only [U122, d1, d2, w0, w, seval, bA]
def StS (ob : List AObj) (s Sg N : Nat) (stt : List Int) (opn sq : Int) : Prop :=
 ob[s]? = some (.box (cellsO N (.osl Sg 0 16) zer opn sq)) ∧ ob[Sg]? = some (lI stt) ∧ stt.length = 16
section
variable {T : Nat → Prop} {ob ob' : List AObj} {N s Sg : Nat} {bl : List Bk} {stt : List Int} {opn sq ops : Int} {P : List Mis}
theorem StS.app (h : StS ob s Sg N stt opn sq) (l : List AObj) : StS (ob ++ l) s Sg N stt opn sq := ⟨apN h.1 l, apN h.2.1 l, h.2.2⟩
theorem StS.ne (hs : StS ob s Sg N stt opn sq) : Sg ≠ s := fun e => by have h1 := hs.1; rw [← e, hs.2.1] at h1; cases h1
def Wn0 (bl : List Bk) : Prop := ∀ k ∈ bl, k.wn = 0
structure Dk (T : Nat → Prop) (ob : List AObj) (s Sg N : Nat) (bl : List Bk) (stt : List Int) (opn ops sq : Int) (P : List Mis) : Prop where
 n : NandS (fun i => T i ∧ i ≠ s ∧ i ≠ Sg) ob 16 N bl ops P
 st : StS ob s Sg N stt opn sq
 ts : T s
 tg : T Sg
theorem Dk.lt (h : Dk T ob s Sg N bl stt opn ops sq P) : s < ob.length ∧ Sg < ob.length := ⟨lt_ofN h.st.1, lt_ofN h.st.2.1⟩
theorem Dk.same {U : Nat → Prop} (h : Dk T ob s Sg N bl stt opn ops sq P) (hS : Same ob ob' U) (hU : ∀ i, i < ob.length → T i → ¬ U i) : Dk T ob' s Sg N bl stt opn ops sq P :=
 ⟨h.n.same hS fun i hi ht => hU i hi ht.1, ⟨hS.get h.st.1 (hU _ h.lt.1 h.ts), hS.get h.st.2.1 (hU _ h.lt.2 h.tg), h.st.2.2⟩, h.ts, h.tg⟩
theorem Dk.wide {U : Nat → Prop} (h : Dk T ob s Sg N bl stt opn ops sq P) (hU : ∀ i, i < ob.length → T i → U i) : Dk U ob s Sg N bl stt opn ops sq P :=
 ⟨h.n.wide fun i hi ht => ⟨hU i hi ht.1, ht.2⟩, h.st, hU _ h.lt.1 h.ts, hU _ h.lt.2 h.tg⟩
theorem Dk.app (h : Dk T ob s Sg N bl stt opn ops sq P) (l : List AObj) : Dk T (ob ++ l) s Sg N bl stt opn ops sq P := h.same (Same.app ob l (fun _ => False)) fun _ _ _ h => h
theorem Dk.upd (h : Dk T ob s Sg N bl stt opn ops sq P) {stt' : List Int} {opn' sq' : Int} (hl : stt'.length = 16) :
  Dk T ((ob.set Sg (lI stt')).set s (.box (cellsO N (.osl Sg 0 16) zer opn' sq'))) s Sg N bl stt' opn' ops sq' P ∧ Same ob ((ob.set Sg (lI stt')).set s (.box (cellsO N (.osl Sg 0 16) zer opn' sq'))) T := by
 have hn := h.st.ne
 have hS : Same ob ((ob.set Sg (lI stt')).set s (.box (cellsO N (.osl Sg 0 16) zer opn' sq'))) (fun i => i = Sg ∨ i = s) := (Same.set (.inl rfl)).trans (Same.set (.inr rfl))
 have h1 : (ob.set Sg (lI stt'))[s]? = some (.box (cellsO N (.osl Sg 0 16) zer opn sq)) := by rw [List.getElem?_set_ne hn]; exact h.st.1
 refine ⟨⟨h.n.same hS fun i _ ht => fun e => e.elim ht.2.2 ht.2.1, ⟨set_get h1, ?_, hl⟩, h.ts, h.tg⟩, hS.mono fun j hj => hj.elim (fun e => e ▸ h.tg) (fun e => e ▸ h.ts)⟩
 rw [List.getElem?_set_ne (fun e => hn e.symm)]; exact set_get h.st.2.1
theorem Dk.upd1 (h : Dk T ob s Sg N bl stt opn ops sq P) {opn' sq' : Int} :
  Dk T (ob.set s (.box (cellsO N (.osl Sg 0 16) zer opn' sq'))) s Sg N bl stt opn' ops sq' P ∧ Same ob (ob.set s (.box (cellsO N (.osl Sg 0 16) zer opn' sq'))) T := by
 have hS : Same ob (ob.set s (.box (cellsO N (.osl Sg 0 16) zer opn' sq'))) (· = s) := Same.set rfl
 refine ⟨⟨h.n.same hS fun i _ ht => ht.2.1, ⟨set_get h.st.1, hS.get h.st.2.1 h.st.ne, h.st.2.2⟩, h.ts, h.tg⟩, hS.mono fun j hj => by have hj : j = s := hj; rw [hj]; exact h.ts⟩
theorem Dk.upd2 (h : Dk T ob s Sg N bl stt opn ops sq P) {stt' : List Int} (hl : stt'.length = 16) :
  Dk T (ob.set Sg (lI stt')) s Sg N bl stt' opn ops sq P ∧ Same ob (ob.set Sg (lI stt')) T := by
 have hS : Same ob (ob.set Sg (lI stt')) (· = Sg) := Same.set rfl
 refine ⟨⟨h.n.same hS fun i _ ht => ht.2.2, ⟨hS.get h.st.1 (fun e => h.st.ne e.symm), set_get h.st.2.1, hl⟩, h.ts, h.tg⟩, hS.mono fun j hj => by have hj : j = Sg := hj; rw [hj]; exact h.tg⟩
end
section
variable {ob : List AObj} {N s Sg : Nat} {bl : List Bk} {stt : List Int} {opn sq ops : Int} {P : List Mis}
def TabK (ob : List AObj) (stt : List Int) : PV → List AObj → Prop := fun r ob' => ∃ m ex, r = .osl m 0 16 ∧ ob' = ob ++ ex ∧ ob'[m]? = some (.list 3 ((tabS stt).map Wr.rowB))
theorem table_i {U : Nat → Prop} (h : NandS U ob 16 N bl ops P) (hw : Wn0 bl) (hs : StS ob s Sg N stt opn sq) :
  ICall Tryz.prog 103 [.ref s 0] ob (TabK ob stt) := by
 obtain ⟨h1, h2, h3⟩ := hs
 refine icall_dr Tryz.func103 E103.h ?_
 have h1' := fun l => apN h1 l
 have h2' := fun l => apN h2 l
 have hr : rowsO (some (lI stt)) 0 16 = some (stt.map rowI) := rowsO_all (by simp [h3])
 have hl : ((stt.map rowI).length : Int) = 16 := by simp [h3]
 obtain ⟨m, hm⟩ : ∃ m, ob.length = m := ⟨_, rfl⟩
 have hm0 : (ob ++ [AObj.list 3 []])[m]? = some (.list 3 []) := by subst hm; simp
 simp only [U103, h1', h2', cellsO, hr, hl, hm, List.length_map, h3, seval, bA]
 refine loopF (fun x : Nat × List AObj => ⟨ofL [(0, .ref s 0), (3, .osl m 0 x.1), (11, .osl Sg 0 16), (12, .int .i64 16), (13, .int .i64 (x.1 : Int))], x.2⟩)
  (fun x => x.1 ≤ 16 ∧ (∃ ex, x.2 = ob ++ ex) ∧ x.2[m]? = some (.list 3 ((tabS (stt.take x.1)).map Wr.rowB))) (fun x => 16 - x.1) (0, ob ++ [.list 3 []]) ?_ ⟨by omega, ⟨_, rfl⟩, hm0⟩ ?_
 ·simp only [U103, seval, bA]
 ·clear hm0
  rintro ⟨i, X⟩ ⟨hi, ⟨ex, hX⟩, hmX⟩
  simp only at hi hX hmX ⊢
  have w1 : IntKind.i64.wrap ((i : Int) + 1) = ((i + 1 : Nat) : Int) := by rw [wrapI (by omega) (by omega)]; omega
  have g1 : ∀ l : List AObj, (X ++ l)[s]? = some (.box (cellsO N (.osl Sg 0 16) zer opn sq)) := fun l => by rw [hX, List.append_assoc]; exact apN h1 _
  have g1' : X[s]? = some (.box (cellsO N (.osl Sg 0 16) zer opn sq)) := by rw [hX]; exact apN h1 _
  have g2 : X[Sg]? = some (lI stt) := by rw [hX]; exact apN h2 _
  by_cases hlt : i < 16
  ·have d : decide ((i : Int) < 16) = true := by simp; omega
   have hlt' : i < stt.length := by omega
   obtain ⟨x, hx⟩ : ∃ x, stt[i] = x := ⟨_, rfl⟩
   have i1 := islO_map (g := rowI) (l := stt) (e := 1) (o := Sg) (m := 16) (k := .i64) (i := i) h3.symm hlt'
   have i2 := ldL_map (g := rowI) (l := stt) (e := 1) (len := 16) (off := 0) (n := 1) (i := i) h3.symm hlt' (by simp)
   rw [hx] at i2
   have i3 := fun (OB : List AObj) (fb : List Nat) => zer_isl (OB := OB) (fb := fb) hlt
   have hn : NandS U (X ++ [AObj.none]) 16 N bl ops P := by rw [hX, List.append_assoc]; exact h.app _
   obtain ⟨bk, hbk⟩ := bl_get h hlt
   have hwr := Worn_r hn hbk
   rw [hw bk (List.mem_of_getElem? hbk)] at hwr
   have htk : tabS (stt.take (i + 1)) = tabS (stt.take i) ++ [⟨x, 0, 0⟩] := by rw [List.take_succ_eq_append_getElem hlt', hx]; simp [tabS]
   obtain ⟨L, hL⟩ : ∃ L, tabS (stt.take i) = L := ⟨_, rfl⟩
   have hLl : L.length = i := by rw [← hL]; simp [tabS]; omega
   rw [hL] at htk hmX
   have lm := lt_ofN hmX
   have qm : (m == X.length) = false := by simp; omega
   have ls := lt_ofN g1'
   have qs : (s == X.length) = false := by simp; omega
   have ap : ∀ fb nw, fb.contains m = false → appO (X ++ [AObj.none]) fb nw 3 (.osl m 0 i) (some [[.int .i64 x, .int .i64 0, .int .i64 0]]) = some (.osl m 0 (i + 1), (X ++ [AObj.none]).set m (.list 3 ((L ++ [(⟨x, 0, 0⟩ : Wr.Blk)]).map Wr.rowB))) := fun fb nw hf => by
    rw [appO_osl hf (apN hmX [AObj.none]) (by simp [hLl]) (by simp; omega) (by simp [rowsOk]) (by simp)]; simp [Wr.rowB]
   have y0 : ∀ l : List AObj, (X ++ l)[X.length]? = l[0]? := fun l => by rw [List.getElem?_append_right (Nat.le_refl _)]; simp
   simp only [U103, d, g1, g1', g2, i1, i2, i3, cellsO, y0, qs, seval, bA]
   refine callR hwr ?_
   simp only [U103, d, g1, g1', g2, i1, i2, i3, cellsO, y0, ap, qm, w1, qs, seval, bA]
   refine ⟨(i + 1, (X ++ [AObj.none]).set m (.list 3 ((L ++ [(⟨x, 0, 0⟩ : Wr.Blk)]).map Wr.rowB))), rfl, ⟨hlt, ?_, ?_⟩, by simp only; omega⟩
   ·refine ⟨(ex ++ [AObj.none]).set 0 (.list 3 ((L ++ [(⟨x, 0, 0⟩ : Wr.Blk)]).map Wr.rowB)), ?_⟩
    simp only
    rw [hX, List.append_assoc, List.set_append_right _ _ (by omega)]
    rw [show m - ob.length = 0 by omega]
   ·rw [htk]; exact set_get (apN hmX _)
  ·have d : decide ((i : Int) < 16) = false := by simp; omega
   have : i = 16 := by omega
   subst this
   rw [List.take_of_length_le (by omega)] at hmX
   simp only [U103, d, seval, bA]
   exact ⟨_, rfl, m, ex, rfl, hX, hmX⟩
theorem retired_r {U : Nat → Prop} (h : NandS U ob 16 N bl ops P) (hw : Wn0 bl) (hs : StS ob s Sg N stt opn sq) :
  RCall Tryz.prog 61 [.ref s 0] ob (.int .i64 (Wr.countN (tabS stt) 3 16)) := by
 refine RCall.of (K := fun r ob' => r = .int .i64 (Wr.countN (tabS stt) 3 16) ∧ ∃ ex, ob' = ob ++ ex) ?_ (fun r ob' h => h) rfl
 refine icall_dr Tryz.func61 E61.h ?_
 simp only [U61, seval, bA]
 refine callM (table_i h hw hs) ?_
 rintro r ob' ⟨m, ex, rfl, hX, hm⟩
 have hl : (tabS stt).length = 16 := by simp [tabS, hs.2.2]
 have hr : rowsO (some (.list 3 ((tabS stt).map Wr.rowB))) 0 16 = some ((tabS stt).map Wr.rowB) := rowsO_all (by simp [hl])
 simp only [U61, hm, hr, seval, bA]
 refine callS (Wr.count_spec (tabS stt) 3 (by omega)) rfl ?_
 rw [hl]
 simp only [U61, seval, bA]
 exact ⟨_, rfl, rfl, ex, hX⟩
theorem worn_r {U : Nat → Prop} (h : NandS U ob 16 N bl ops P) (hw : Wn0 bl) (hs : StS ob s Sg N stt opn sq) (h3 : Wr.countN (tabS stt) 3 16 ≤ 2) :
  RCall Tryz.prog 24 [.ref s 0] ob (.bool false) := by
 refine RCall.ofR ?_ rfl
 refine icall_dr Tryz.func24 E24.h ?_
 have hb := hs.1
 have d : decide ((2 : Int) < (Wr.countN (tabS stt) 3 16 : Int)) = false := by rw [decide_eq_false_iff_not]; omega
 simp only [U24, hb, cellsO, seval, bA]
 refine callR (retired_r h hw hs) ?_
 simp only [U24, hb, cellsO, d, seval, bA]
 exact ⟨_, rfl, isR rfl⟩
def sttT (bl : List Bk) : List Int := bl.map fstS
theorem sttT_take {i : Nat} {k : Bk} (h : bl[i]? = some k) : (sttT bl).take (i + 1) = (sttT bl).take i ++ [fstS k] := by
 obtain ⟨h1, h2⟩ := List.getElem?_eq_some_iff.1 h
 rw [List.take_succ_eq_append_getElem (by simpa [sttT] using h1)]
 simp [sttT, h2]
theorem open_i {U : Nat → Prop} (h : NandS U ob 16 N bl ops P) (hT : TxOk bl) :
  ICall Tryz.prog 9 [.ref N 0] ob fun r ob' => ∃ s Sg sq, r = .tup [.ref s 0, .nili] ∧ ob.length ≤ s ∧ ob.length ≤ Sg ∧ Same ob ob' (fun _ => False) ∧ StS ob' s Sg N (sttT bl) (-1) sq ∧ (foundB bl 256 = [] → sq = 0) := by
 refine icall_dr Tryz.func9 E9.h ?_
 simp only [U9, seval, bA]
 refine callR (Down_r h) ?_
 simp only [U9, seval, bA]
 refine callR (Geo_r h) ?_
 obtain ⟨s, hs⟩ : ∃ s, ob.length = s := ⟨_, rfl⟩
 have y0 : ∀ b : AObj, (ob ++ [b])[s]? = some b := fun b => by rw [← hs]; simp
 have z0 : ∀ b c : AObj, (ob ++ [b]).set s c = ob ++ [c] := fun b c => by rw [← hs]; simp
 simp only [U9, hs, y0, z0, seval, bA]
 refine callI plan_spec ?_
 have hz : ∀ ks, mksO [.int .i64 0] (.int .i64 16) (.int .i64 16) ks = ks 16 := fun ks => by rw [mksO_int (by omega) (by omega) (by simp [PV.scal]) (by simp [ownL, PV.own?])]; rfl
 have hz2 : PV.slc (List.replicate 16 [PV.int .i64 0]) = zer := rfl
 simp only [U9, y0, z0, hz, hz2, seval, bA]
 obtain ⟨O1, hO1⟩ : ∃ O1, ob ++ [AObj.box (cellsO N .nils zer (-1) 0)] = O1 := ⟨_, rfl⟩
 have k1 : Same ob O1 (fun _ => False) := by rw [← hO1]; exact Same.app _ _ _
 have b1 : O1[s]? = some (.box (cellsO N .nils zer (-1) 0)) := by rw [← hO1]; exact y0 _
 refine loopF (fun x : Nat × List AObj × PV => ⟨ofL [(0, .ref N 0), (4, .ref s 0), (47, .int .i64 16), (48, .int .i64 (x.1 : Int))], x.2.1⟩)
  (fun x => x.1 ≤ 16 ∧ Same ob x.2.1 (fun _ => False) ∧ x.2.1[s]? = some (.box (cellsO N x.2.2 zer (-1) 0)) ∧ ((x.1 = 0 ∧ x.2.2 = .nils) ∨ ∃ Sg, x.2.2 = .osl Sg 0 x.1 ∧ x.2.1[Sg]? = some (lI ((sttT bl).take x.1)) ∧ ob.length ≤ Sg ∧ 0 < x.1))
  (fun x => 16 - x.1) (0, O1, .nils) ?_ ⟨by omega, k1, b1, .inl ⟨rfl, rfl⟩⟩ ?_
 ·simp only [U9, seval, bA]
  rw [← hO1]; rfl
 ·clear k1 b1 hO1 O1 y0 z0
  rintro ⟨i, X, pv⟩ ⟨hi, hK, hb, hp⟩
  simp only at hi hK hb hp ⊢
  have hX : NandS U X 16 N bl ops P := h.same hK (fun _ _ _ h => h)
  have ls : ob.length ≤ s := by omega
  have w1 : IntKind.i64.wrap ((i : Int) + 1) = ((i + 1 : Nat) : Int) := by rw [wrapI (by omega) (by omega)]; omega
  have lX := lt_ofN hb
  by_cases hlt : i < 16
  ·have d : decide ((i : Int) < 16) = true := by simp; omega
   have hn : NandS U (X ++ [AObj.none]) 16 N bl ops P := hX.app _
   obtain ⟨bk, hbk⟩ := bl_get h hlt
   have gb := fun l : List AObj => apN hb l
   have yX : ∀ l : List AObj, (X ++ l)[X.length]? = l[0]? := fun l => by rw [List.getElem?_append_right (Nat.le_refl _)]; simp
   have zX : ∀ (l : List AObj) a, (X ++ l).set X.length a = X ++ l.set 0 a := fun l a => by rw [List.set_append_right _ _ (Nat.le_refl _)]; simp
   have qs : (s == X.length) = false := by simp; omega
   obtain ⟨x, hx⟩ : ∃ x : Int, fstS bk = x := ⟨_, rfl⟩
   have hfr := stfirst_r hn hbk
   have htk := sttT_take hbk
   rw [hx] at hfr htk
   rcases hp with ⟨rfl, rfl⟩ | ⟨Sg, rfl, hS, hSg, hi0⟩
   ·have ap : ∀ fb, appO (X ++ [AObj.none]) fb (some X.length) 1 .nils (some [[.int .i64 x]]) = some (.osl X.length 0 1, X ++ [lI [x]]) := fun fb => by
     rw [appO_nilsA (yX _) (by simp [rowsOk]) (by simp), zX]; rfl
    simp only [U9, d, gb, qs, cellsO, yX, seval, bA]
    refine callR hfr ?_
    simp only [U9, d, gb, qs, cellsO, ap, w1, yX, seval, bA]
    refine ⟨(1, (X ++ [lI [x]]).set s (.box (cellsO N (.osl X.length 0 1) zer (-1) 0)), .osl X.length 0 1), rfl, ⟨by omega, (hK.trans (Same.app _ _ _)).hi (by omega), set_get (gb _), .inr ⟨_, rfl, ?_, by omega, by omega⟩⟩, by simp⟩
    rw [List.getElem?_set_ne (by omega), yX]
    simp only [htk]
    rfl
   ·have lS := lt_ofN hS
    have hSs : Sg ≠ s := fun e => by rw [e, hb] at hS; cases hS
    have qS : (Sg == X.length) = false := by simp; omega
    obtain ⟨L, hL⟩ : ∃ L, (sttT bl).take i = L := ⟨_, rfl⟩
    have hLl : L.length = i := by rw [← hL]; simp [sttT, h.len]; omega
    rw [hL] at htk hS
    have ap : ∀ fb nw, fb.contains Sg = false → appO (X ++ [AObj.none]) fb nw 1 (.osl Sg 0 i) (some [[.int .i64 x]]) = some (.osl Sg 0 (i + 1), (X ++ [AObj.none]).set Sg (lI (L ++ [x]))) := fun fb nw hf => by
     rw [appO_osl hf (apN hS _) (by simp [hLl]) (by simp; omega) (by simp [rowsOk]) (by simp)]
     rw [show lI (L ++ [x]) = .list 1 (L.map rowI ++ [[.int .i64 x]]) by simp [rowI]]
     rfl
    have gb2 : ∀ a, ((X ++ [AObj.none]).set Sg a)[s]? = some (.box (cellsO N (.osl Sg 0 i) zer (-1) 0)) := fun a => by rw [List.getElem?_set_ne hSs]; exact gb _
    simp only [U9, d, gb, qs, qS, cellsO, yX, seval, bA]
    refine callR hfr ?_
    simp only [U9, d, gb, gb2, qs, qS, cellsO, ap, w1, yX, seval, bA]
    refine ⟨(i + 1, ((X ++ [AObj.none]).set Sg (lI (L ++ [x]))).set s (.box (cellsO N (.osl Sg 0 (i + 1)) zer (-1) 0)), .osl Sg 0 (i + 1)), rfl, ⟨hlt, ((hK.trans (Same.app _ _ _)).hi hSg).hi (by omega), set_get (gb2 _), .inr ⟨_, rfl, ?_, hSg, by simp only; omega⟩⟩, by simp only; omega⟩
    ·rw [List.getElem?_set_ne (fun e => hSs e.symm), htk]; exact set_get (apN hS _)
  ·have d : decide ((i : Int) < 16) = false := by simp; omega
   have : i = 16 := by omega
   subst this
   rcases hp with ⟨hp, _⟩ | ⟨Sg, rfl, hS, hSg, -⟩
   ·cases hp
   rw [List.take_of_length_le (by simp [sttT, h.len])] at hS
   have hst : StS X s Sg N (sttT bl) (-1) 0 := ⟨hb, hS, by simp [sttT, h.len]⟩
   simp only [U9, d, seval, bA]
   refine callM (scan_i hX hT hb) ?_
   rintro r O2 ⟨m, rfl, hm, lm, K2⟩
   have hst2 : StS O2 s Sg N (sttT bl) (-1) 0 := ⟨K2.get hst.1 (fun h => h), K2.get hst.2.1 (fun h => h), hst.2.2⟩
   obtain ⟨L, hL⟩ : ∃ L, foundB bl 256 = L := ⟨_, rfl⟩
   have hLl : L.length ≤ 256 := by rw [← hL]; exact foundB_le _ _
   rw [hL] at hm
   rw [hL]
   have hr : rowsO (some (lF L)) 0 L.length = some (L.map rowF) := rowsO_all (by simp)
   simp only [U9, hm, hr, List.length_map, seval, bA]
   refine loopF (fun x : Nat × List AObj × Int => ⟨ofL [(4, .ref s 0), (65, .osl m 0 L.length), (66, .int .i64 (L.length : Int)), (67, .int .i64 (x.1 : Int))], x.2.1⟩)
    (fun x => x.1 ≤ L.length ∧ Same ob x.2.1 (fun _ => False) ∧ StS x.2.1 s Sg N (sttT bl) (-1) x.2.2 ∧ x.2.1[m]? = some (lF L) ∧ (L = [] → x.2.2 = 0))
    (fun x => L.length - x.1) (0, O2, 0) ?_ ⟨by omega, hK.trans K2, hst2, hm, fun _ => rfl⟩ ?_
   ·simp only [U9, seval, bA]
    try rfl
   ·clear hst hst2 hm hK hb hS
    rintro ⟨j, Y, sq⟩ ⟨hj, hKY, hsY, hmY, h0⟩
    simp only at hj hKY hsY hmY h0 ⊢
    have w1 : IntKind.i64.wrap ((j : Int) + 1) = ((j + 1 : Nat) : Int) := by rw [wrapI (by omega) (by omega)]; omega
    by_cases hjl : j < L.length
    ·have dj : decide ((j : Int) < (L.length : Int)) = true := by simpa using hjl
     obtain ⟨q, hq⟩ : ∃ q, L[j] = q := ⟨_, rfl⟩
     have i1 := islO_map (g := rowF) (l := L) (e := 6) (o := m) (m := L.length) (k := .i64) (i := j) rfl hjl
     have i2 := ldL_map (g := rowF) (l := L) (e := 6) (len := L.length) (off := 0) (n := 6) (i := j) rfl hjl (by simp [rowF, rowP])
     rw [hq] at i2
     obtain ⟨hb, hS, hl⟩ := hsY
     have y0 : ∀ l : List AObj, (Y ++ l)[Y.length]? = l[0]? := fun l => by rw [List.getElem?_append_right (Nat.le_refl _)]; simp
     have z0 : ∀ (l : List AObj) a, (Y ++ l).set Y.length a = Y ++ l.set 0 a := fun l a => by rw [List.set_append_right _ _ (Nat.le_refl _)]; simp
     have gb := fun l : List AObj => apN hb l
     simp only [U9, dj, hmY, i1, i2, y0, z0, gb, cellsO, rowF, rowP, w1, seval, bA]
     have gh := h0
     refine ⟨(j + 1, (Y ++ [AObj.box (rowF q)]).set s (.box (cellsO N (.osl Sg 0 16) zer (-1) (max sq (IntKind.i64.wrap (q.2.sq + 1))))), max sq (IntKind.i64.wrap (q.2.sq + 1))), rfl, ⟨hjl, (hKY.trans (Same.app _ _ _)).hi (by omega), ⟨set_get (gb _), ?_, hl⟩, ?_, fun e => ?_⟩, by simp only; omega⟩
     ·rw [List.getElem?_set_ne (fun e => by rw [e, hS] at hb; cases hb)]; exact apN hS _
     ·rw [List.getElem?_set_ne (fun e => by rw [e, hmY] at hb; cases hb)]; exact apN hmY _
     ·simp [e] at hjl
    ·have dj : decide ((j : Int) < (L.length : Int)) = false := by simpa using hjl
     simp only [U9, dj, seval, bA]
     exact ⟨_, rfl, s, Sg, sq, rfl, by omega, by omega, hKY, hsY, h0⟩
end
end Go.Proofs.YtdgpiobmncohjaaGreatDoor.Aw
