/-
  The store: it is opened.; The store: a page's place. Written by a program (mksto5.py).; The store: a page is put behind the others.
-/
import Derived.Test.YtdgpiobmncohjaaGreatDoorSta
set_option linter.unusedSimpArgs false
set_option linter.unusedVariables false
set_option maxRecDepth 100000
namespace Go.Proofs.YtdgpiobmncohjaaGreatDoor.Aw
open Go.RowKit

variable {ob : List AObj} {N : Nat} {ops : Int} {P : List Mis} {down : Bool} {T : List (List UInt8)}

def sttT (T : List (List UInt8)) : List Int := (List.range 16).map fun b => if T.length ≤ 8 * b then 0 else 2
theorem sttT_len (T : List (List UInt8)) : (sttT T).length = 16 := by simp [sttT]
theorem sttT_take (T : List (List UInt8)) {i : Nat} (h : i < 16) : (sttT T).take (i + 1) = (sttT T).take i ++ [if T.length ≤ 8 * i then 0 else 2] := by
  rw [List.take_succ_eq_append_getElem (by rw [sttT_len]; exact h)]
  simp [sttT]
theorem open_i (h : NandF ob N T ops P false) (hT : ∀ n, (tx T n).length ≤ 1000000) :
    ICall Tryz.prog 9 [.ref N 0] ob fun r ob' => ∃ s Sg sq, r = .tup [.ref s 0, .nili] ∧ NandF ob' N T ops P false ∧ KeepL ob ob' ∧ StS ob' s Sg N (sttT T) (-1) sq ∧ (foundN T 128 = [] → sq = 0) := by
  refine icall_dr Tryz.func9 comp_store_Open ?_
  simp (config := {maxSteps := 4000000}) only [U_store_Open, reduceIte, reduceCtorEq, Nat.reduceEqDiff, Nat.reduceAdd, Int.reduceLT, Int.reduceLE, Int.reduceNeg, Int.reduceEq, Nat.reduceLT, Nat.reduceSub, Nat.reduceMul, Nat.reduceBEq, Nat.reduceLeDiff, Int.reduceBEq, Int.reduceBNe, Int.reduceToNat, ne_eq, implies_true, bA]
  refine callR (fDown_r h) ?_
  simp (config := {maxSteps := 4000000}) only [U_store_Open, reduceIte, reduceCtorEq, Nat.reduceEqDiff, Nat.reduceAdd, Int.reduceLT, Int.reduceLE, Int.reduceNeg, Int.reduceEq, Nat.reduceLT, Nat.reduceSub, Nat.reduceMul, Nat.reduceBEq, Nat.reduceLeDiff, Int.reduceBEq, Int.reduceBNe, Int.reduceToNat, ne_eq, implies_true, bA]
  refine callR (fGeo_r h) ?_
  obtain ⟨s, hs⟩ : ∃ s, ob.length = s := ⟨_, rfl⟩
  have y0 : ∀ b : AObj, (ob ++ [b])[s]? = some b := fun b => by rw [← hs]; simp
  have z0 : ∀ b c : AObj, (ob ++ [b]).set s c = ob ++ [c] := fun b c => by rw [← hs]; simp
  simp (config := {maxSteps := 4000000}) only [U_store_Open, hs, y0, z0, reduceIte, reduceCtorEq, Nat.reduceEqDiff, Nat.reduceAdd, Int.reduceLT, Int.reduceLE, Int.reduceNeg, Int.reduceEq, Nat.reduceLT, Nat.reduceSub, Nat.reduceMul, Nat.reduceBEq, Nat.reduceLeDiff, Int.reduceBEq, Int.reduceBNe, Int.reduceToNat, ne_eq, implies_true, bA]
  refine callI plan_spec ?_
  have hz : ∀ ks, mksO [.int .i64 0] (.int .i64 16) (.int .i64 16) ks = ks 16 := fun ks => by rw [mksO_int (by omega) (by omega) (by simp [PV.scal]) (by simp [ownL, PV.own?])]; rfl
  have hz2 : PV.slc (List.replicate 16 [PV.int .i64 0]) = zer := rfl
  simp (config := {maxSteps := 4000000}) only [U_store_Open, y0, z0, hz, hz2, reduceIte, reduceCtorEq, Nat.reduceEqDiff, Nat.reduceAdd, Int.reduceLT, Int.reduceLE, Int.reduceNeg, Int.reduceEq, Nat.reduceLT, Nat.reduceSub, Nat.reduceMul, Nat.reduceBEq, Nat.reduceLeDiff, Int.reduceBEq, Int.reduceBNe, Int.reduceToNat, ne_eq, implies_true, bA]
  obtain ⟨O1, hO1⟩ : ∃ O1, ob ++ [AObj.box (cellsO N .nils zer (-1) 0)] = O1 := ⟨_, rfl⟩
  have h1 : NandF O1 N T ops P false := by rw [← hO1]; exact h.app _
  have k1 : KeepL ob O1 := by rw [← hO1]; exact KeepL.app _ _
  have b1 : O1[s]? = some (.box (cellsO N .nils zer (-1) 0)) := by rw [← hO1]; exact y0 _
  refine loopF (fun x : Nat × List AObj × PV => ⟨ofL [(0, .ref N 0), (4, .ref s 0), (47, .int .i64 16), (48, .int .i64 (x.1 : Int))], x.2.1⟩)
    (fun x => x.1 ≤ 16 ∧ NandF x.2.1 N T ops P false ∧ KeepL ob x.2.1 ∧ x.2.1[s]? = some (.box (cellsO N x.2.2 zer (-1) 0)) ∧ ((x.1 = 0 ∧ x.2.2 = .nils) ∨ ∃ Sg, x.2.2 = .osl Sg 0 x.1 ∧ x.2.1[Sg]? = some (lI ((sttT T).take x.1)) ∧ ob.length ≤ Sg ∧ 0 < x.1))
    (fun x => 16 - x.1) (0, O1, .nils) ?_ ⟨by omega, h1, k1, b1, .inl ⟨rfl, rfl⟩⟩ ?_
  · simp (config := {maxSteps := 4000000}) only [U_store_Open, reduceIte, reduceCtorEq, Nat.reduceEqDiff, Nat.reduceAdd, Int.reduceLT, Int.reduceLE, Int.reduceNeg, Int.reduceEq, Nat.reduceLT, Nat.reduceSub, Nat.reduceMul, Nat.reduceBEq, Nat.reduceLeDiff, Int.reduceBEq, Int.reduceBNe, Int.reduceToNat, ne_eq, implies_true, bA]
    rw [← hO1]; rfl
  · clear h1 k1 b1 hO1 O1 y0 z0
    rintro ⟨i, X, pv⟩ ⟨hi, hX, hK, hb, hp⟩
    simp only at hi hX hK hb hp ⊢
    have w1 : IntKind.i64.wrap ((i : Int) + 1) = ((i + 1 : Nat) : Int) := by rw [wrapI (by omega) (by omega)]; omega
    have lX := lt_ofN hb
    by_cases hlt : i < 16
    · have d : decide ((i : Int) < 16) = true := by simp; omega
      have hn : NandF (X ++ [AObj.none]) N T ops P false := hX.app _
      have gb := fun l : List AObj => apN hb l
      have yX : ∀ l : List AObj, (X ++ l)[X.length]? = l[0]? := fun l => by rw [List.getElem?_append_right (Nat.le_refl _)]; simp
      have zX : ∀ (l : List AObj) a, (X ++ l).set X.length a = X ++ l.set 0 a := fun l a => by rw [List.set_append_right _ _ (Nat.le_refl _)]; simp
      have qs : (s == X.length) = false := by simp; omega
      obtain ⟨x, hx⟩ : ∃ x : Int, (if T.length ≤ 8 * i then 0 else 2) = x := ⟨_, rfl⟩
      have hfr := first_r hn hlt
      have htk := sttT_take T hlt
      rw [hx] at hfr htk
      rcases hp with ⟨rfl, rfl⟩ | ⟨Sg, rfl, hS, hSg, hi0⟩
      · have ap : ∀ fb, appO (X ++ [AObj.none]) fb (some X.length) 1 .nils (some [[.int .i64 x]]) = some (.osl X.length 0 1, X ++ [lI [x]]) := fun fb => by
          rw [appO_nilsA (yX _) (by simp [rowsOk]) (by simp), zX]; rfl
        simp (config := {maxSteps := 4000000}) only [U_store_Open, d, gb, qs, cellsO, yX, reduceIte, reduceCtorEq, Nat.reduceEqDiff, Nat.reduceAdd, Int.reduceLT, Int.reduceLE, Int.reduceNeg, Int.reduceEq, Nat.reduceLT, Nat.reduceSub, Nat.reduceMul, Nat.reduceBEq, Nat.reduceLeDiff, Int.reduceBEq, Int.reduceBNe, Int.reduceToNat, ne_eq, implies_true, bA]
        refine callR hfr ?_
        simp (config := {maxSteps := 4000000}) only [U_store_Open, d, gb, qs, cellsO, ap, w1, yX, reduceIte, reduceCtorEq, Nat.reduceEqDiff, Nat.reduceAdd, Int.reduceLT, Int.reduceLE, Int.reduceNeg, Int.reduceEq, Nat.reduceLT, Nat.reduceSub, Nat.reduceMul, Nat.reduceBEq, Nat.reduceLeDiff, Int.reduceBEq, Int.reduceBNe, Int.reduceToNat, ne_eq, implies_true, bA]
        refine ⟨(1, (X ++ [lI [x]]).set s (.box (cellsO N (.osl X.length 0 1) zer (-1) 0)), .osl X.length 0 1), rfl, ⟨by omega, (hX.app _).put (gb _) (by simp [cellsO]) (by simp [cellsO]), keep_high (hK.trans (KeepL.app _ _)) (by omega), set_get (gb _), .inr ⟨_, rfl, ?_, by omega, by omega⟩⟩, by simp⟩
        rw [List.getElem?_set_ne (by omega), yX]
        simp only [htk]
        rfl
      · have lS := lt_ofN hS
        have hSs : Sg ≠ s := fun e => by rw [e, hb] at hS; cases hS
        have qS : (Sg == X.length) = false := by simp; omega
        obtain ⟨L, hL⟩ : ∃ L, (sttT T).take i = L := ⟨_, rfl⟩
        have hLl : L.length = i := by rw [← hL]; simp [sttT_len]; omega
        rw [hL] at htk hS
        have ap : ∀ fb nw, fb.contains Sg = false → appO (X ++ [AObj.none]) fb nw 1 (.osl Sg 0 i) (some [[.int .i64 x]]) = some (.osl Sg 0 (i + 1), (X ++ [AObj.none]).set Sg (lI (L ++ [x]))) := fun fb nw hf => by
          rw [appO_osl hf (apN hS _) (by simp [hLl]) (by simp; omega) (by simp [rowsOk]) (by simp)]
          rw [show lI (L ++ [x]) = .list 1 (L.map rowI ++ [[.int .i64 x]]) by simp [rowI]]
          rfl
        have gb2 : ∀ a, ((X ++ [AObj.none]).set Sg a)[s]? = some (.box (cellsO N (.osl Sg 0 i) zer (-1) 0)) := fun a => by rw [List.getElem?_set_ne hSs]; exact gb _
        simp (config := {maxSteps := 4000000}) only [U_store_Open, d, gb, qs, qS, cellsO, yX, reduceIte, reduceCtorEq, Nat.reduceEqDiff, Nat.reduceAdd, Int.reduceLT, Int.reduceLE, Int.reduceNeg, Int.reduceEq, Nat.reduceLT, Nat.reduceSub, Nat.reduceMul, Nat.reduceBEq, Nat.reduceLeDiff, Int.reduceBEq, Int.reduceBNe, Int.reduceToNat, ne_eq, implies_true, bA]
        refine callR hfr ?_
        simp (config := {maxSteps := 4000000}) only [U_store_Open, d, gb, gb2, qs, qS, cellsO, ap, w1, yX, reduceIte, reduceCtorEq, Nat.reduceEqDiff, Nat.reduceAdd, Int.reduceLT, Int.reduceLE, Int.reduceNeg, Int.reduceEq, Nat.reduceLT, Nat.reduceSub, Nat.reduceMul, Nat.reduceBEq, Nat.reduceLeDiff, Int.reduceBEq, Int.reduceBNe, Int.reduceToNat, ne_eq, implies_true, bA]
        refine ⟨(i + 1, ((X ++ [AObj.none]).set Sg (lI (L ++ [x]))).set s (.box (cellsO N (.osl Sg 0 (i + 1)) zer (-1) 0)), .osl Sg 0 (i + 1)), rfl, ⟨hlt, ?_, keep_high (keep_high (hK.trans (KeepL.app _ _)) hSg) (by omega), set_get (gb2 _), .inr ⟨_, rfl, ?_, hSg, by simp only; omega⟩⟩, by simp only; omega⟩
        · refine NandS.put (NandS.putL (hX.app _) (apN hS _) (.inr ?_) (by omega)) (gb2 _) (by simp [cellsO]) (by simp [cellsO])
          cases L with
          | nil => simp at hLl; omega
          | cons y L => rfl
        · rw [List.getElem?_set_ne (fun e => hSs e.symm), htk]; exact set_get (apN hS _)
    · have d : decide ((i : Int) < 16) = false := by simp; omega
      have : i = 16 := by omega
      subst this
      rcases hp with ⟨hp, _⟩ | ⟨Sg, rfl, hS, hSg, -⟩
      · cases hp
      rw [List.take_of_length_le (by rw [sttT_len]; omega)] at hS
      have hst : StS X s Sg N (sttT T) (-1) 0 := ⟨hb, hS, sttT_len T⟩
      simp (config := {maxSteps := 4000000}) only [U_store_Open, d, reduceIte, reduceCtorEq, Nat.reduceEqDiff, Nat.reduceAdd, Int.reduceLT, Int.reduceLE, Int.reduceNeg, Int.reduceEq, Nat.reduceLT, Nat.reduceSub, Nat.reduceMul, Nat.reduceBEq, Nat.reduceLeDiff, Int.reduceBEq, Int.reduceBNe, Int.reduceToNat, ne_eq, implies_true, bA]
      refine callM (scan_i hX hT hb) ?_
      rintro r O2 ⟨m, rfl, hm, h2, K2⟩
      have hst2 := hst.keep K2
      obtain ⟨L, hL⟩ : ∃ L, foundN T 128 = L := ⟨_, rfl⟩
      have hLl : L.length ≤ 128 := by rw [← hL]; exact foundN_le _ _
      rw [hL] at hm
      rw [hL]
      have hr : rowsO (some (Rt.lF L)) 0 L.length = some (L.map Rt.rowF) := rowsO_all (by simp)
      simp (config := {maxSteps := 4000000}) only [U_store_Open, hm, hr, List.length_map, reduceIte, reduceCtorEq, Nat.reduceEqDiff, Nat.reduceAdd, Int.reduceLT, Int.reduceLE, Int.reduceNeg, Int.reduceEq, Nat.reduceLT, Nat.reduceSub, Nat.reduceMul, Nat.reduceBEq, Nat.reduceLeDiff, Int.reduceBEq, Int.reduceBNe, Int.reduceToNat, ne_eq, implies_true, bA]
      refine loopF (fun x : Nat × List AObj × Int => ⟨ofL [(4, .ref s 0), (65, .osl m 0 L.length), (66, .int .i64 (L.length : Int)), (67, .int .i64 (x.1 : Int))], x.2.1⟩)
        (fun x => x.1 ≤ L.length ∧ NandF x.2.1 N T ops P false ∧ KeepL ob x.2.1 ∧ StS x.2.1 s Sg N (sttT T) (-1) x.2.2 ∧ x.2.1[m]? = some (Rt.lF L) ∧ (L = [] → x.2.2 = 0))
        (fun x => L.length - x.1) (0, O2, 0) ?_ ⟨by omega, h2, hK.trans K2, hst2, hm, fun _ => rfl⟩ ?_
      · simp (config := {maxSteps := 4000000}) only [U_store_Open, reduceIte, reduceCtorEq, Nat.reduceEqDiff, Nat.reduceAdd, Int.reduceLT, Int.reduceLE, Int.reduceNeg, Int.reduceEq, Nat.reduceLT, Nat.reduceSub, Nat.reduceMul, Nat.reduceBEq, Nat.reduceLeDiff, Int.reduceBEq, Int.reduceBNe, Int.reduceToNat, ne_eq, implies_true, bA]
        try rfl
      · clear hst hst2 hm h2 K2 hX hK hb hS
        rintro ⟨j, Y, sq⟩ ⟨hj, hY, hKY, hsY, hmY, h0⟩
        simp only at hj hY hKY hsY hmY h0 ⊢
        have w1 : IntKind.i64.wrap ((j : Int) + 1) = ((j + 1 : Nat) : Int) := by rw [wrapI (by omega) (by omega)]; omega
        by_cases hjl : j < L.length
        · have dj : decide ((j : Int) < (L.length : Int)) = true := by simpa using hjl
          obtain ⟨q, hq⟩ : ∃ q, L[j] = q := ⟨_, rfl⟩
          have i1 := islO_map (g := Rt.rowF) (l := L) (e := 6) (o := m) (m := L.length) (k := .i64) (i := j) rfl hjl
          have i2 := ldL_map (g := Rt.rowF) (l := L) (e := 6) (len := L.length) (off := 0) (n := 6) (i := j) rfl hjl (by simp [Rt.rowF])
          rw [hq] at i2
          obtain ⟨hb, hS, hl⟩ := hsY
          have y0 : ∀ l : List AObj, (Y ++ l)[Y.length]? = l[0]? := fun l => by rw [List.getElem?_append_right (Nat.le_refl _)]; simp
          have z0 : ∀ (l : List AObj) a, (Y ++ l).set Y.length a = Y ++ l.set 0 a := fun l a => by rw [List.set_append_right _ _ (Nat.le_refl _)]; simp
          have gb := fun l : List AObj => apN hb l
          simp (config := {maxSteps := 4000000}) only [U_store_Open, dj, hmY, i1, i2, y0, z0, gb, cellsO, Rt.rowF, w1, reduceIte, reduceCtorEq, Nat.reduceEqDiff, Nat.reduceAdd, Int.reduceLT, Int.reduceLE, Int.reduceNeg, Int.reduceEq, Nat.reduceLT, Nat.reduceSub, Nat.reduceMul, Nat.reduceBEq, Nat.reduceLeDiff, Int.reduceBEq, Int.reduceBNe, Int.reduceToNat, ne_eq, implies_true, bA]
          have gh := h0
          refine ⟨(j + 1, (Y ++ [AObj.box (Rt.rowF q)]).set s (.box (cellsO N (.osl Sg 0 16) zer (-1) (max sq (IntKind.i64.wrap (q.seq + 1))))), max sq (IntKind.i64.wrap (q.seq + 1))), rfl, ⟨hjl, (hY.app _).put (gb _) (by simp [cellsO]) (by simp [cellsO]), keep_high (hKY.trans (KeepL.app _ _)) (by omega), ⟨set_get (gb _), ?_, hl⟩, ?_, fun e => ?_⟩, by simp only; omega⟩
          · rw [List.getElem?_set_ne (fun e => by rw [e, hS] at hb; cases hb)]; exact apN hS _
          · rw [List.getElem?_set_ne (fun e => by rw [e, hmY] at hb; cases hb)]; exact apN hmY _
          · simp [e] at hjl
        · have dj : decide ((j : Int) < (L.length : Int)) = false := by simpa using hjl
          simp (config := {maxSteps := 4000000}) only [U_store_Open, dj, reduceIte, reduceCtorEq, Nat.reduceEqDiff, Nat.reduceAdd, Int.reduceLT, Int.reduceLE, Int.reduceNeg, Int.reduceEq, Nat.reduceLT, Nat.reduceSub, Nat.reduceMul, Nat.reduceBEq, Nat.reduceLeDiff, Int.reduceBEq, Int.reduceBNe, Int.reduceToNat, ne_eq, implies_true, bA]
          exact ⟨_, rfl, s, Sg, sq, rfl, hY, hKY, hsY, h0⟩

end Go.Proofs.YtdgpiobmncohjaaGreatDoor.Aw
namespace Go.Proofs.YtdgpiobmncohjaaGreatDoor.Aw
open Go.RowKit

variable {ob : List AObj} {N : Nat} {ops : Int} {P : List Mis} {down : Bool} {T : List (List UInt8)}

/-- The states behind n pages; the open block. -/
def sttN (n : Nat) : List Int := (List.range 16).map fun b => if n ≤ 8 * b then 0 else 2
def sttP (n : Nat) : List Int := (List.range 16).map fun b => if n ≤ 8 * b then 0 else if b = (n - 1) / 8 then 1 else 2
def opnP (n : Nat) : Int := if n = 0 then -1 else (((n - 1) / 8 : Nat) : Int)
theorem stt_seal : ∀ n < 128, 0 < n → n % 8 = 0 → (sttP n).set ((n - 1) / 8) 2 = sttN n := by decide +kernel
theorem stt_pick : ∀ n < 128, n % 8 = 0 → Wr.pickS (tabS (sttN n)) = ((n / 8 : Nat) : Int) := by decide +kernel
theorem stt_open : ∀ n < 128, n % 8 = 0 → (sttN n).set (n / 8) 1 = sttP (n + 1) := by decide +kernel
theorem stt_stay : ∀ n < 128, n % 8 ≠ 0 → sttP (n + 1) = sttP n := by decide +kernel
theorem stt_zero : sttP 0 = sttN 0 := by decide +kernel
theorem sttP_len (n : Nat) : (sttP n).length = 16 := by simp [sttP]
theorem sttN_len (n : Nat) : (sttN n).length = 16 := by simp [sttN]
theorem sttP_no3 (n : Nat) : ∀ x ∈ sttP n, x ≠ 3 := by
  intro x hx
  simp only [sttP, List.mem_map] at hx
  obtain ⟨b, _, rfl⟩ := hx
  split
  · omega
  · split <;> omega

def KeepB (ob ob' : List AObj) : Prop := ∀ (i : Nat) (c : List PV), c.length ≠ 6 → c.length ≠ 12 → c.length ≠ 48 → ob[i]? = some (AObj.box c) → ob'[i]? = some (AObj.box c)
theorem KeepB.trans {a b c : List AObj} (h : KeepB a b) (k : KeepB b c) : KeepB a c := fun i r h1 h2 h3 h4 => k i r h1 h2 h3 (h i r h1 h2 h3 h4)
theorem KeepB.refl (a : List AObj) : KeepB a a := fun _ _ _ _ _ h => h
theorem KeepL.toB {a b : List AObj} (h : KeepL a b) : KeepB a b := fun i c h1 h2 h3 h4 => h.2 i c h1 h3 h4
theorem KeepB.app (ob l : List AObj) : KeepB ob (ob ++ l) := (KeepL.app ob l).toB
theorem KeepB.ls {ob : List AObj} {i z : Nat} {r : List (List PV)} {a : AObj} (h : ob[i]? = some (.list z r)) : KeepB ob (ob.set i a) := fun j c _ _ _ h4 => by
  rw [List.getElem?_set_ne (fun e => by rw [← e, h] at h4; cases h4)]; exact h4
theorem KeepB.st {ob : List AObj} {i : Nat} {c : List PV} {a : AObj} (h : ob[i]? = some (.box c)) (hc : c.length = 12) : KeepB ob (ob.set i a) := fun j d _ h2 _ h4 => by
  rw [List.getElem?_set_ne (fun e => by rw [← e, h] at h4; injection h4 with h4; injection h4 with h4; rw [h4] at hc; exact h2 hc)]; exact h4
theorem sS_ne {s Sg : Nat} {stt : List Int} {opn sq : Int} (hs : StS ob s Sg N stt opn sq) : Sg ≠ s := fun e => by have h1 := hs.1; rw [← e, hs.2.1] at h1; cases h1
/-- The state of a block and the open block are other ones now. -/
theorem StS.upd {s Sg : Nat} {stt stt' : List Int} {opn opn' sq sq' : Int} (h : NandF ob N T ops P down) (hs : StS ob s Sg N stt opn sq) (hl : stt'.length = 16) :
    NandF ((ob.set Sg (lI stt')).set s (.box (cellsO N (.osl Sg 0 16) zer opn' sq'))) N T ops P down ∧ StS ((ob.set Sg (lI stt')).set s (.box (cellsO N (.osl Sg 0 16) zer opn' sq'))) s Sg N stt' opn' sq' ∧ KeepB ob ((ob.set Sg (lI stt')).set s (.box (cellsO N (.osl Sg 0 16) zer opn' sq'))) := by
  have hn := sS_ne hs
  have h1 : (ob.set Sg (lI stt'))[s]? = some (.box (cellsO N (.osl Sg 0 16) zer opn sq)) := by rw [List.getElem?_set_ne hn]; exact hs.1
  refine ⟨NandS.put (NandS.putL h hs.2.1 (.inr (isI_l hs.2.2)) (by omega)) h1 (by simp [cellsO]) (by simp [cellsO]), ⟨set_get h1, ?_, hl⟩, (KeepB.ls hs.2.1).trans (KeepB.st h1 (by simp [cellsO]))⟩
  rw [List.getElem?_set_ne (fun e => hn e.symm)]; exact set_get hs.2.1
theorem StS.upd1 {s Sg : Nat} {stt : List Int} {opn opn' sq sq' : Int} (h : NandF ob N T ops P down) (hs : StS ob s Sg N stt opn sq) :
    NandF (ob.set s (.box (cellsO N (.osl Sg 0 16) zer opn' sq'))) N T ops P down ∧ StS (ob.set s (.box (cellsO N (.osl Sg 0 16) zer opn' sq'))) s Sg N stt opn' sq' ∧ KeepB ob (ob.set s (.box (cellsO N (.osl Sg 0 16) zer opn' sq'))) := by
  have hn := sS_ne hs
  refine ⟨NandS.put h hs.1 (by simp [cellsO]) (by simp [cellsO]), ⟨set_get hs.1, ?_, hs.2.2⟩, KeepB.st hs.1 (by simp [cellsO])⟩
  rw [List.getElem?_set_ne (fun e => hn e.symm)]; exact hs.2.1
theorem StS.upd2 {s Sg : Nat} {stt stt' : List Int} {opn sq : Int} (h : NandF ob N T ops P down) (hs : StS ob s Sg N stt opn sq) (hl : stt'.length = 16) :
    NandF (ob.set Sg (lI stt')) N T ops P down ∧ StS (ob.set Sg (lI stt')) s Sg N stt' opn sq ∧ KeepB ob (ob.set Sg (lI stt')) := by
  have hn := sS_ne hs
  refine ⟨NandS.putL h hs.2.1 (.inr (isI_l hs.2.2)) (by omega), ⟨?_, set_get hs.2.1, hl⟩, KeepB.ls hs.2.1⟩
  rw [List.getElem?_set_ne hn]; exact hs.1

theorem seal_i {s Sg b : Nat} {stt : List Int} {sq : Int} (hs : StS ob s Sg N stt (b : Int) sq) (hb : b < 16) :
    ICall Tryz.prog 149 [.ref s 0] ob fun r ob' => ob' = (ob.set Sg (lI (stt.set b 2))).set s (.box (cellsO N (.osl Sg 0 16) zer (-1) sq)) := by
  refine icall_dr Tryz.func149 comp_store_Store_Seal ?_
  have hb1 := hs.1
  have hS := hs.2.1
  have hlt : b < stt.length := by rw [hs.2.2]; exact hb
  have i1 := islO_map (g := rowI) (l := stt) (e := 1) (o := Sg) (m := 16) (k := .i64) (i := b) hs.2.2.symm hlt
  have s1 := stL_map (g := rowI) (l := stt) (ob := ob) (o := Sg) (e := 1) (len := 16) (off := 0) (i := b) (vs := [.int .i64 2]) (x := 2) hs.2.2.symm hlt (by simp) (by simp [setAt])
  have g2 : ∀ a, (ob.set Sg a)[s]? = some (.box (cellsO N (.osl Sg 0 16) zer (b : Int) sq)) := fun a => by rw [List.getElem?_set_ne (sS_ne hs)]; exact hb1
  have d0 : decide ((0 : Int) ≤ (b : Int)) = true := by rw [decide_eq_true_eq]; omega
  simp (config := {maxSteps := 4000000}) only [U_store_Store_Seal, hb1, hS, cellsO, i1, s1, g2, d0, reduceIte, reduceCtorEq, Nat.reduceEqDiff, Nat.reduceAdd, Int.reduceLT, Int.reduceLE, Int.reduceNeg, Int.reduceEq, Nat.reduceLT, Nat.reduceSub, Nat.reduceMul, Nat.reduceBEq, Nat.reduceLeDiff, Int.reduceBEq, Int.reduceBNe, Int.reduceToNat, ne_eq, implies_true, bA]
  exact ⟨_, rfl⟩

def PlaceK (ob : List AObj) (s Sg N : Nat) (T : List (List UInt8)) (ops : Int) (P : List Mis) (down : Bool) (sq : Int) : PV → List AObj → Prop := fun r ob' =>
  r = .tup [.int .i64 (T.length : Int), .nili] ∧ NandF ob' N T ops P down ∧ StS ob' s Sg N (sttP (T.length + 1)) (opnP (T.length + 1)) sq ∧ KeepB ob ob'
theorem place_i {s Sg : Nat} {sq : Int} (h : NandF ob N T ops P down) (hT : T.length < 128) (hs : StS ob s Sg N (sttP T.length) (opnP T.length) sq) :
    ICall Tryz.prog 119 [.ref s 0] ob (PlaceK ob s Sg N T ops P down sq) := by
  refine icall_dr Tryz.func119 comp_store_Store_place ?_
  have hP1 : opnP (T.length + 1) = ((T.length / 8 : Nat) : Int) := by rw [opnP, if_neg (by omega)]; rfl
  have e0 : T.length / 8 < 16 := by omega
  have wN : IntKind.i64.wrap (((8 * (T.length / 8) : Nat) : Int) + ((min 8 (T.length - 8 * (T.length / 8)) : Nat) : Int)) = (T.length : Int) := by rw [wrapI (by omega) (by omega)]; omega
  have d0 : decide ((0 : Int) ≤ ((T.length / 8 : Nat) : Int)) = true := by rw [decide_eq_true_eq]; omega
  have d1 : decide (((T.length / 8 : Nat) : Int) < 0) = false := by rw [decide_eq_false_iff_not]; omega
  have hb := hs.1
  by_cases h8 : T.length % 8 = 0
  · by_cases h0 : T.length = 0
    · rw [h0] at hs hb
      have ho : opnP 0 = -1 := rfl
      rw [ho, stt_zero] at hs
      rw [ho] at hb
      rw [← h0] at hs
      have X := ob
      have hX := h
      have hsX := hs
      have kX := KeepB.refl ob
      simp (config := {maxSteps := 4000000}) only [U_store_Store_place, hb, cellsO, reduceIte, reduceCtorEq, Nat.reduceEqDiff, Nat.reduceAdd, Int.reduceLT, Int.reduceLE, Int.reduceNeg, Int.reduceEq, Nat.reduceLT, Nat.reduceSub, Nat.reduceMul, Nat.reduceBEq, Nat.reduceLeDiff, Int.reduceBEq, Int.reduceBNe, Int.reduceToNat, ne_eq, implies_true, bA]
      have lX : (sttN T.length).length = 16 := sttN_len _
      have hbX := hsX.1
      have hlT : (tabS (sttN T.length)).length = 16 := by simp [tabS, lX]
      have hr : rowsO (some (.list 3 ((tabS (sttN T.length)).map Wr.rowB))) 0 16 = some ((tabS (sttN T.length)).map Wr.rowB) := rowsO_all (by simp [hlT])
      refine callM (table_i hX hsX) ?_
      rintro r ob' ⟨m, ex, rfl, rfl, hm⟩
      have gb := apN hbX ex
      have gS := apN hsX.2.1 ex
      have hsE := hsX.app ex
      have hXE := NandS.app hX ex
      obtain ⟨Y, hY⟩ : ∃ Y, ob ++ ex = Y := ⟨_, rfl⟩
      rw [hY] at gb gS hm hsE hXE ⊢
      simp (config := {maxSteps := 4000000}) only [U_store_Store_place, hm, hr, reduceIte, reduceCtorEq, Nat.reduceEqDiff, Nat.reduceAdd, Int.reduceLT, Int.reduceLE, Int.reduceNeg, Int.reduceEq, Nat.reduceLT, Nat.reduceSub, Nat.reduceMul, Nat.reduceBEq, Nat.reduceLeDiff, Int.reduceBEq, Int.reduceBNe, Int.reduceToNat, ne_eq, implies_true, bA]
      refine callS (Wr.pick_spec (tabS (sttN T.length)) (by omega)) rfl ?_
      rw [stt_pick _ hT h8]
      have hne := sS_ne hsE
      have i1 := islO_map (g := rowI) (l := sttN T.length) (e := 1) (o := Sg) (m := 16) (k := .i64) (i := T.length / 8) lX.symm (by omega)
      have s1 := fun O : List AObj => stL_map (g := rowI) (l := sttN T.length) (ob := O) (o := Sg) (e := 1) (len := 16) (off := 0) (i := T.length / 8) (vs := [.int .i64 1]) (x := 1) lX.symm (by omega) (by simp) (by simp [setAt])
      rw [stt_open _ hT h8] at s1
      obtain ⟨z1, z2, z3⟩ := hsE.upd1 (opn' := ((T.length / 8 : Nat) : Int)) (sq' := sq) hXE
      obtain ⟨z4, z5, z6⟩ := z2.upd2 (stt' := sttP (T.length + 1)) z1 (sttP_len _)
      obtain ⟨Z, hZ⟩ : ∃ Z, Y.set s (.box (cellsO N (.osl Sg 0 16) zer ((T.length / 8 : Nat) : Int) sq)) = Z := ⟨_, rfl⟩
      rw [hZ] at z1 z2 z3 z4 z5 z6
      have gz := z2.1
      have gzS := z2.2.1
      have hZ' := hZ
      simp only [cellsO] at hZ'
      simp (config := {maxSteps := 4000000}) only [U_store_Store_place, gb, cellsO, hZ', gz, gzS, d1, i1, s1, reduceIte, reduceCtorEq, Nat.reduceEqDiff, Nat.reduceAdd, Int.reduceLT, Int.reduceLE, Int.reduceNeg, Int.reduceEq, Nat.reduceLT, Nat.reduceSub, Nat.reduceMul, Nat.reduceBEq, Nat.reduceLeDiff, Int.reduceBEq, Int.reduceBNe, Int.reduceToNat, ne_eq, implies_true, bA]
      have gw := z5.1
      simp (config := {maxSteps := 4000000}) only [U_store_Store_place, gw, cellsO, reduceIte, reduceCtorEq, Nat.reduceEqDiff, Nat.reduceAdd, Int.reduceLT, Int.reduceLE, Int.reduceNeg, Int.reduceEq, Nat.reduceLT, Nat.reduceSub, Nat.reduceMul, Nat.reduceBEq, Nat.reduceLeDiff, Int.reduceBEq, Int.reduceBNe, Int.reduceToNat, ne_eq, implies_true, bA]
      refine callI (gfirst_spec e0) ?_
      simp (config := {maxSteps := 4000000}) only [U_store_Store_place, gw, cellsO, reduceIte, reduceCtorEq, Nat.reduceEqDiff, Nat.reduceAdd, Int.reduceLT, Int.reduceLE, Int.reduceNeg, Int.reduceEq, Nat.reduceLT, Nat.reduceSub, Nat.reduceMul, Nat.reduceBEq, Nat.reduceLeDiff, Int.reduceBEq, Int.reduceBNe, Int.reduceToNat, ne_eq, implies_true, bA]
      refine callR (fNext_r z4 e0) ?_
      simp (config := {maxSteps := 4000000}) only [U_store_Store_place, wN, reduceIte, reduceCtorEq, Nat.reduceEqDiff, Nat.reduceAdd, Int.reduceLT, Int.reduceLE, Int.reduceNeg, Int.reduceEq, Nat.reduceLT, Nat.reduceSub, Nat.reduceMul, Nat.reduceBEq, Nat.reduceLeDiff, Int.reduceBEq, Int.reduceBNe, Int.reduceToNat, ne_eq, implies_true, bA]
      exact ⟨_, rfl, rfl, z4, by rw [hP1]; exact z5, (kX.trans ((KeepB.app ob ex).trans (by rw [hY]; exact z3))).trans z6⟩
    · have ho : opnP T.length = (((T.length - 1) / 8 : Nat) : Int) := by rw [opnP, if_neg h0]
      rw [ho] at hs hb
      have e1 : (T.length - 1) / 8 < 16 := by omega
      have d2 : decide ((0 : Int) ≤ (((T.length - 1) / 8 : Nat) : Int)) = true := by rw [decide_eq_true_eq]; omega
      have d3 : decide ((8 : Int) ≤ ((min 8 (T.length - 8 * ((T.length - 1) / 8)) : Nat) : Int)) = true := by rw [decide_eq_true_eq]; omega
      simp (config := {maxSteps := 4000000}) only [U_store_Store_place, hb, cellsO, d2, reduceIte, reduceCtorEq, Nat.reduceEqDiff, Nat.reduceAdd, Int.reduceLT, Int.reduceLE, Int.reduceNeg, Int.reduceEq, Nat.reduceLT, Nat.reduceSub, Nat.reduceMul, Nat.reduceBEq, Nat.reduceLeDiff, Int.reduceBEq, Int.reduceBNe, Int.reduceToNat, ne_eq, implies_true, bA]
      refine callR (fNext_r h e1) ?_
      simp (config := {maxSteps := 4000000}) only [U_store_Store_place, d3, reduceIte, reduceCtorEq, Nat.reduceEqDiff, Nat.reduceAdd, Int.reduceLT, Int.reduceLE, Int.reduceNeg, Int.reduceEq, Nat.reduceLT, Nat.reduceSub, Nat.reduceMul, Nat.reduceBEq, Nat.reduceLeDiff, Int.reduceBEq, Int.reduceBNe, Int.reduceToNat, ne_eq, implies_true, bA]
      refine callM (seal_i hs e1) ?_
      rintro r X hX0
      obtain ⟨hX, hsX, kX⟩ := hs.upd (stt' := (sttP T.length).set ((T.length - 1) / 8) 2) (opn' := -1) (sq' := sq) h (by simp [sttP_len])
      rw [← hX0, stt_seal _ hT (by omega) h8] at hsX
      rw [← hX0] at hX kX
      clear hX0
      have hb := hsX.1
      simp (config := {maxSteps := 4000000}) only [U_store_Store_place, hb, cellsO, reduceIte, reduceCtorEq, Nat.reduceEqDiff, Nat.reduceAdd, Int.reduceLT, Int.reduceLE, Int.reduceNeg, Int.reduceEq, Nat.reduceLT, Nat.reduceSub, Nat.reduceMul, Nat.reduceBEq, Nat.reduceLeDiff, Int.reduceBEq, Int.reduceBNe, Int.reduceToNat, ne_eq, implies_true, bA]
      have lX : (sttN T.length).length = 16 := sttN_len _
      have hbX := hsX.1
      have hlT : (tabS (sttN T.length)).length = 16 := by simp [tabS, lX]
      have hr : rowsO (some (.list 3 ((tabS (sttN T.length)).map Wr.rowB))) 0 16 = some ((tabS (sttN T.length)).map Wr.rowB) := rowsO_all (by simp [hlT])
      refine callM (table_i hX hsX) ?_
      rintro r ob' ⟨m, ex, rfl, rfl, hm⟩
      have gb := apN hbX ex
      have gS := apN hsX.2.1 ex
      have hsE := hsX.app ex
      have hXE := NandS.app hX ex
      obtain ⟨Y, hY⟩ : ∃ Y, X ++ ex = Y := ⟨_, rfl⟩
      rw [hY] at gb gS hm hsE hXE ⊢
      simp (config := {maxSteps := 4000000}) only [U_store_Store_place, hm, hr, reduceIte, reduceCtorEq, Nat.reduceEqDiff, Nat.reduceAdd, Int.reduceLT, Int.reduceLE, Int.reduceNeg, Int.reduceEq, Nat.reduceLT, Nat.reduceSub, Nat.reduceMul, Nat.reduceBEq, Nat.reduceLeDiff, Int.reduceBEq, Int.reduceBNe, Int.reduceToNat, ne_eq, implies_true, bA]
      refine callS (Wr.pick_spec (tabS (sttN T.length)) (by omega)) rfl ?_
      rw [stt_pick _ hT h8]
      have hne := sS_ne hsE
      have i1 := islO_map (g := rowI) (l := sttN T.length) (e := 1) (o := Sg) (m := 16) (k := .i64) (i := T.length / 8) lX.symm (by omega)
      have s1 := fun O : List AObj => stL_map (g := rowI) (l := sttN T.length) (ob := O) (o := Sg) (e := 1) (len := 16) (off := 0) (i := T.length / 8) (vs := [.int .i64 1]) (x := 1) lX.symm (by omega) (by simp) (by simp [setAt])
      rw [stt_open _ hT h8] at s1
      obtain ⟨z1, z2, z3⟩ := hsE.upd1 (opn' := ((T.length / 8 : Nat) : Int)) (sq' := sq) hXE
      obtain ⟨z4, z5, z6⟩ := z2.upd2 (stt' := sttP (T.length + 1)) z1 (sttP_len _)
      obtain ⟨Z, hZ⟩ : ∃ Z, Y.set s (.box (cellsO N (.osl Sg 0 16) zer ((T.length / 8 : Nat) : Int) sq)) = Z := ⟨_, rfl⟩
      rw [hZ] at z1 z2 z3 z4 z5 z6
      have gz := z2.1
      have gzS := z2.2.1
      have hZ' := hZ
      simp only [cellsO] at hZ'
      simp (config := {maxSteps := 4000000}) only [U_store_Store_place, gb, cellsO, hZ', gz, gzS, d1, i1, s1, reduceIte, reduceCtorEq, Nat.reduceEqDiff, Nat.reduceAdd, Int.reduceLT, Int.reduceLE, Int.reduceNeg, Int.reduceEq, Nat.reduceLT, Nat.reduceSub, Nat.reduceMul, Nat.reduceBEq, Nat.reduceLeDiff, Int.reduceBEq, Int.reduceBNe, Int.reduceToNat, ne_eq, implies_true, bA]
      have gw := z5.1
      simp (config := {maxSteps := 4000000}) only [U_store_Store_place, gw, cellsO, reduceIte, reduceCtorEq, Nat.reduceEqDiff, Nat.reduceAdd, Int.reduceLT, Int.reduceLE, Int.reduceNeg, Int.reduceEq, Nat.reduceLT, Nat.reduceSub, Nat.reduceMul, Nat.reduceBEq, Nat.reduceLeDiff, Int.reduceBEq, Int.reduceBNe, Int.reduceToNat, ne_eq, implies_true, bA]
      refine callI (gfirst_spec e0) ?_
      simp (config := {maxSteps := 4000000}) only [U_store_Store_place, gw, cellsO, reduceIte, reduceCtorEq, Nat.reduceEqDiff, Nat.reduceAdd, Int.reduceLT, Int.reduceLE, Int.reduceNeg, Int.reduceEq, Nat.reduceLT, Nat.reduceSub, Nat.reduceMul, Nat.reduceBEq, Nat.reduceLeDiff, Int.reduceBEq, Int.reduceBNe, Int.reduceToNat, ne_eq, implies_true, bA]
      refine callR (fNext_r z4 e0) ?_
      simp (config := {maxSteps := 4000000}) only [U_store_Store_place, wN, reduceIte, reduceCtorEq, Nat.reduceEqDiff, Nat.reduceAdd, Int.reduceLT, Int.reduceLE, Int.reduceNeg, Int.reduceEq, Nat.reduceLT, Nat.reduceSub, Nat.reduceMul, Nat.reduceBEq, Nat.reduceLeDiff, Int.reduceBEq, Int.reduceBNe, Int.reduceToNat, ne_eq, implies_true, bA]
      exact ⟨_, rfl, rfl, z4, by rw [hP1]; exact z5, (kX.trans ((KeepB.app X ex).trans (by rw [hY]; exact z3))).trans z6⟩
  · have h0 : T.length ≠ 0 := by omega
    have ho : opnP T.length = ((T.length / 8 : Nat) : Int) := by rw [opnP, if_neg h0]; congr 1; omega
    rw [ho] at hs hb
    have d3 : decide ((8 : Int) ≤ ((min 8 (T.length - 8 * (T.length / 8)) : Nat) : Int)) = false := by rw [decide_eq_false_iff_not]; omega
    simp (config := {maxSteps := 4000000}) only [U_store_Store_place, hb, cellsO, d0, reduceIte, reduceCtorEq, Nat.reduceEqDiff, Nat.reduceAdd, Int.reduceLT, Int.reduceLE, Int.reduceNeg, Int.reduceEq, Nat.reduceLT, Nat.reduceSub, Nat.reduceMul, Nat.reduceBEq, Nat.reduceLeDiff, Int.reduceBEq, Int.reduceBNe, Int.reduceToNat, ne_eq, implies_true, bA]
    refine callR (fNext_r h e0) ?_
    simp (config := {maxSteps := 4000000}) only [U_store_Store_place, d3, hb, cellsO, d1, reduceIte, reduceCtorEq, Nat.reduceEqDiff, Nat.reduceAdd, Int.reduceLT, Int.reduceLE, Int.reduceNeg, Int.reduceEq, Nat.reduceLT, Nat.reduceSub, Nat.reduceMul, Nat.reduceBEq, Nat.reduceLeDiff, Int.reduceBEq, Int.reduceBNe, Int.reduceToNat, ne_eq, implies_true, bA]
    refine callI (gfirst_spec e0) ?_
    simp (config := {maxSteps := 4000000}) only [U_store_Store_place, hb, cellsO, reduceIte, reduceCtorEq, Nat.reduceEqDiff, Nat.reduceAdd, Int.reduceLT, Int.reduceLE, Int.reduceNeg, Int.reduceEq, Nat.reduceLT, Nat.reduceSub, Nat.reduceMul, Nat.reduceBEq, Nat.reduceLeDiff, Int.reduceBEq, Int.reduceBNe, Int.reduceToNat, ne_eq, implies_true, bA]
    refine callR (fNext_r h e0) ?_
    simp (config := {maxSteps := 4000000}) only [U_store_Store_place, wN, reduceIte, reduceCtorEq, Nat.reduceEqDiff, Nat.reduceAdd, Int.reduceLT, Int.reduceLE, Int.reduceNeg, Int.reduceEq, Nat.reduceLT, Nat.reduceSub, Nat.reduceMul, Nat.reduceBEq, Nat.reduceLeDiff, Int.reduceBEq, Int.reduceBNe, Int.reduceToNat, ne_eq, implies_true, bA]
    exact ⟨_, rfl, rfl, h, by rw [hP1, stt_stay _ hT h8]; exact hs, KeepB.refl _⟩

end Go.Proofs.YtdgpiobmncohjaaGreatDoor.Aw
namespace Go.Proofs.YtdgpiobmncohjaaGreatDoor.Aw
open Go.RowKit

variable {ob : List AObj} {N : Nat} {ops : Int} {P : List Mis} {down : Bool} {T : List (List UInt8)}

theorem WrapAt.keepB {ob ob' : List AObj} {e : Int} {r : PV} (h : WrapAt ob e r) (k : KeepB ob ob') : WrapAt ob' e r := by
  rcases h with h | ⟨h0, o, op, a, h1, h2⟩
  · exact .inl h
  · exact .inr ⟨h0, o, op, a, h1, k o _ (by simp) (by simp) (by simp) h2⟩
theorem errT_09 {m : Mis} (h : m.kd ≠ 2) : errT m = 0 ∨ errT m = 9 := by
  rw [errT]; split
  · exact .inr rfl
  · exact .inl (by first | rfl | rw [if_neg h])
def PutK (ob : List AObj) (s Sg N : Nat) (T : List (List UInt8)) (t : List UInt8) (ops : Int) (P : List Mis) (sq : Int) : PV → List AObj → Prop := fun r ob' =>
  ∃ e2, r = .tup [.int .i64 (T.length : Int), e2] ∧ WrapAt ob' (errT (cM P (ops + 1))) e2 ∧ NandF ob' N (T ++ [pageT (cM P (ops + 1)) t]) (ops + 1) P (decide ((cM P (ops + 1)).kd = 1)) ∧ StS ob' s Sg N (sttP (T.length + 1)) (opnP (T.length + 1)) sq ∧ KeepB ob ob'
theorem put_i {s Sg : Nat} {sq : Int} {t : List UInt8} (h : NandF ob N T ops P false) (hops : ops < 1000000) (hT : T.length < 128) (hs : StS ob s Sg N (sttP T.length) (opnP T.length) sq) (ht : t.length ≤ 128) (hj : (cM P (ops + 1)).jk.length ≤ 1000) (hk : (cM P (ops + 1)).kd ≠ 2) :
    ICall Tryz.prog 84 [.ref s 0, .str t] ob (PutK ob s Sg N T t ops P sq) := by
  refine icall_dr Tryz.func84 comp_store_Store_put ?_
  simp (config := {maxSteps := 4000000}) only [U_store_Store_put, reduceIte, reduceCtorEq, Nat.reduceEqDiff, Nat.reduceAdd, Int.reduceLT, Int.reduceLE, Int.reduceNeg, Int.reduceEq, Nat.reduceLT, Nat.reduceSub, Nat.reduceMul, Nat.reduceBEq, Nat.reduceLeDiff, Int.reduceBEq, Int.reduceBNe, Int.reduceToNat, ne_eq, implies_true, bA]
  refine loopF (fun _ : Unit => ⟨ofL [(0, .ref s 0), (1, .str t)], ob⟩) (fun _ => True) (fun _ => 0) () ?_ trivial ?_
  · simp (config := {maxSteps := 4000000}) only [U_store_Store_put, reduceIte, reduceCtorEq, Nat.reduceEqDiff, Nat.reduceAdd, Int.reduceLT, Int.reduceLE, Int.reduceNeg, Int.reduceEq, Nat.reduceLT, Nat.reduceSub, Nat.reduceMul, Nat.reduceBEq, Nat.reduceLeDiff, Int.reduceBEq, Int.reduceBNe, Int.reduceToNat, ne_eq, implies_true, bA]
    try rfl
  · rintro _ _
    simp (config := {maxSteps := 4000000}) only [U_store_Store_put, reduceIte, reduceCtorEq, Nat.reduceEqDiff, Nat.reduceAdd, Int.reduceLT, Int.reduceLE, Int.reduceNeg, Int.reduceEq, Nat.reduceLT, Nat.reduceSub, Nat.reduceMul, Nat.reduceBEq, Nat.reduceLeDiff, Int.reduceBEq, Int.reduceBNe, Int.reduceToNat, ne_eq, implies_true, bA]
    refine callR (worn_r h hs (sttP_no3 _)) ?_
    simp (config := {maxSteps := 4000000}) only [U_store_Store_put, reduceIte, reduceCtorEq, Nat.reduceEqDiff, Nat.reduceAdd, Int.reduceLT, Int.reduceLE, Int.reduceNeg, Int.reduceEq, Nat.reduceLT, Nat.reduceSub, Nat.reduceMul, Nat.reduceBEq, Nat.reduceLeDiff, Int.reduceBEq, Int.reduceBNe, Int.reduceToNat, ne_eq, implies_true, bA]
    refine callM (place_i h hT hs) ?_
    rintro r O2 ⟨rfl, h2, s2, k2⟩
    have b2 := s2.1
    simp (config := {maxSteps := 4000000}) only [U_store_Store_put, b2, cellsO, reduceIte, reduceCtorEq, Nat.reduceEqDiff, Nat.reduceAdd, Int.reduceLT, Int.reduceLE, Int.reduceNeg, Int.reduceEq, Nat.reduceLT, Nat.reduceSub, Nat.reduceMul, Nat.reduceBEq, Nat.reduceLeDiff, Int.reduceBEq, Int.reduceBNe, Int.reduceToNat, ne_eq, implies_true, bA]
    refine callM (fProgram_i h2 hops hT ht hj hk) ?_
    rintro r O3 ⟨h3, k3, w3⟩
    have s3 := s2.keep k3
    simp (config := {maxSteps := 4000000}) only [U_store_Store_put, reduceIte, reduceCtorEq, Nat.reduceEqDiff, Nat.reduceAdd, Int.reduceLT, Int.reduceLE, Int.reduceNeg, Int.reduceEq, Nat.reduceLT, Nat.reduceSub, Nat.reduceMul, Nat.reduceBEq, Nat.reduceLeDiff, Int.reduceBEq, Int.reduceBNe, Int.reduceToNat, ne_eq, implies_true, bA]
    refine callR (is_r w3 (errT_09 hk)) ?_
    simp (config := {maxSteps := 4000000}) only [U_store_Store_put, reduceIte, reduceCtorEq, Nat.reduceEqDiff, Nat.reduceAdd, Int.reduceLT, Int.reduceLE, Int.reduceNeg, Int.reduceEq, Nat.reduceLT, Nat.reduceSub, Nat.reduceMul, Nat.reduceBEq, Nat.reduceLeDiff, Int.reduceBEq, Int.reduceBNe, Int.reduceToNat, ne_eq, implies_true, bA]
    exact ⟨_, rfl, _, rfl, w3, h3, s3, k2.trans k3.toB⟩

def pSeq (p : Pg) (sq : Int) : Pg := ⟨p.kd, p.sp, p.ky, sq, p.bo⟩
def sealP (p : Pg) : List UInt8 := sealS (bodyS p)
theorem writeS_yes {p : Pg} (h : mayB p = true) : writeS p = (sealP p, 0) := by rw [writeS, if_pos h]; rfl
theorem sealP_len {p : Pg} (h : mayB p = true) : (sealP p).length ≤ 128 := by
  have := write_len p
  rwa [writeS_yes h] at this
theorem may_seq {p : Pg} {sq : Int} (h : mayB (pSeq p 0) = true) (h0 : 0 ≤ sq) (h1 : sq ≤ 1000) : mayB (pSeq p sq) = true := by
  obtain ⟨a1, a2, a3, a4, a5, a6, a7, a8, a9⟩ := mayB_iff.1 h
  simp only [pSeq] at a1 a2 a3 a4 a5 a6 a9
  exact mayB_iff.2 ⟨a1, a2, a3, a4, a5, a6, h0, by simp only [pSeq]; omega, a9⟩
def AppK (ob : List AObj) (s Sg N : Nat) (T : List (List UInt8)) (p : Pg) (ops : Int) (P : List Mis) (sq : Int) (ef : List AObj → PV → Prop) : PV → List AObj → Prop := fun r ob' =>
  ∃ r1 e, r = .tup [.int .i64 r1, e] ∧ ef ob' e ∧ NandF ob' N (T ++ [pageT (cM P (ops + 1)) (sealP (pSeq p sq))]) (ops + 1) P (decide ((cM P (ops + 1)).kd = 1)) ∧ StS ob' s Sg N (sttP (T.length + 1)) (opnP (T.length + 1)) (sq + 1) ∧ KeepB ob ob'
theorem append_i {s Sg : Nat} {sq : Int} {p : Pg} (h : NandF ob N T ops P false) (hops : ops < 1000000) (hT : T.length < 128) (hs : StS ob s Sg N (sttP T.length) (opnP T.length) sq) (hp : mayB (pSeq p 0) = true) (h0 : 0 ≤ sq) (h1 : sq ≤ 1000) (hj : (cM P (ops + 1)).jk.length ≤ 1000) (hk : (cM P (ops + 1)).kd ≠ 2) :
    ICall Tryz.prog 46 [.ref s 0, pP p] ob (AppK ob s Sg N T p ops P sq fun _ e => e = errV (errT (cM P (ops + 1)))) := by
  refine icall_dr Tryz.func46 comp_store_Store_append ?_
  have hb := fun l => apN hs.1 l
  have y0 : ∀ b : AObj, (ob ++ [b])[ob.length]? = some b := fun b => by simp
  have z0 : ∀ b c : AObj, (ob ++ [b]).set ob.length c = ob ++ [c] := fun b c => by simp
  have d1 : decide ((281474976710655 : Int) < sq) = false := by rw [decide_eq_false_iff_not]; omega
  have hbo := (mayB_iff.1 hp).2.2.2.2.2.2.2.2
  simp only [pSeq] at hbo
  have hp1 := may_seq hp h0 h1
  simp (config := {maxSteps := 4000000}) only [U_store_Store_append, hb, y0, z0, rowP, reduceIte, reduceCtorEq, Nat.reduceEqDiff, Nat.reduceAdd, Int.reduceLT, Int.reduceLE, Int.reduceNeg, Int.reduceEq, Nat.reduceLT, Nat.reduceSub, Nat.reduceMul, Nat.reduceBEq, Nat.reduceLeDiff, Int.reduceBEq, Int.reduceBNe, Int.reduceToNat, ne_eq, implies_true, bA]
  refine callI (write_spec (pSeq p 0) (by simp only [pSeq]; omega)) ?_
  rw [writeS_yes hp]
  simp (config := {maxSteps := 4000000}) only [U_store_Store_append, hb, y0, z0, rowP, cellsO, d1, reduceIte, reduceCtorEq, Nat.reduceEqDiff, Nat.reduceAdd, Int.reduceLT, Int.reduceLE, Int.reduceNeg, Int.reduceEq, Nat.reduceLT, Nat.reduceSub, Nat.reduceMul, Nat.reduceBEq, Nat.reduceLeDiff, Int.reduceBEq, Int.reduceBNe, Int.reduceToNat, ne_eq, implies_true, bA]
  refine callI (write_spec (pSeq p sq) (by simp only [pSeq]; omega)) ?_
  rw [writeS_yes hp1]
  simp (config := {maxSteps := 4000000}) only [U_store_Store_append, hb, y0, z0, rowP, cellsO, d1, reduceIte, reduceCtorEq, Nat.reduceEqDiff, Nat.reduceAdd, Int.reduceLT, Int.reduceLE, Int.reduceNeg, Int.reduceEq, Nat.reduceLT, Nat.reduceSub, Nat.reduceMul, Nat.reduceBEq, Nat.reduceLeDiff, Int.reduceBEq, Int.reduceBNe, Int.reduceToNat, ne_eq, implies_true, bA]
  refine callR (fOps_r (NandS.app h _)) ?_
  try simp (config := {maxSteps := 4000000}) only [U_store_Store_append, reduceIte, reduceCtorEq, Nat.reduceEqDiff, Nat.reduceAdd, Int.reduceLT, Int.reduceLE, Int.reduceNeg, Int.reduceEq, Nat.reduceLT, Nat.reduceSub, Nat.reduceMul, Nat.reduceBEq, Nat.reduceLeDiff, Int.reduceBEq, Int.reduceBNe, Int.reduceToNat, ne_eq, implies_true, bA]
  refine callM (put_i (NandS.app h _) hops hT (hs.app _) (sealP_len hp1) hj hk) ?_
  rintro r O2 ⟨e2, rfl, w2, h2, s2, k2⟩
  have b2 := s2.1
  simp (config := {maxSteps := 4000000}) only [U_store_Store_append, b2, cellsO, reduceIte, reduceCtorEq, Nat.reduceEqDiff, Nat.reduceAdd, Int.reduceLT, Int.reduceLE, Int.reduceNeg, Int.reduceEq, Nat.reduceLT, Nat.reduceSub, Nat.reduceMul, Nat.reduceBEq, Nat.reduceLeDiff, Int.reduceBEq, Int.reduceBNe, Int.reduceToNat, ne_eq, implies_true, bA]
  refine callR (fOps_r h2) ?_
  have d2 : decide (ops < ops + 1) = true := by rw [decide_eq_true_eq]; omega
  have ws : IntKind.i64.wrap (sq + 1) = sq + 1 := wrapI (by omega) (by omega)
  obtain ⟨q1, q2, q3⟩ := s2.upd1 (opn' := opnP (T.length + 1)) (sq' := sq + 1) h2
  obtain ⟨Z, hZ⟩ : ∃ Z, O2.set s (.box (cellsO N (.osl Sg 0 16) zer (opnP (T.length + 1)) (sq + 1))) = Z := ⟨_, rfl⟩
  rw [hZ] at q1 q2 q3
  have w3 := w2.keepB q3
  simp only [cellsO] at hZ
  rcases errT_09 hk with he | he
  · rw [he] at w3 ⊢
    have := w3.zero; subst this
    simp (config := {maxSteps := 4000000}) only [U_store_Store_append, b2, cellsO, d2, ws, hZ, reduceIte, reduceCtorEq, Nat.reduceEqDiff, Nat.reduceAdd, Int.reduceLT, Int.reduceLE, Int.reduceNeg, Int.reduceEq, Nat.reduceLT, Nat.reduceSub, Nat.reduceMul, Nat.reduceBEq, Nat.reduceLeDiff, Int.reduceBEq, Int.reduceBNe, Int.reduceToNat, ne_eq, implies_true, bA]
    exact ⟨_, rfl, _, _, rfl, by simp [errV], q1, q2, (KeepB.app _ _).trans (k2.trans q3)⟩
  · rw [he] at w3 ⊢
    obtain ⟨o, rfl⟩ := w3.some (by decide)
    simp (config := {maxSteps := 4000000}) only [U_store_Store_append, b2, cellsO, d2, ws, hZ, reduceIte, reduceCtorEq, Nat.reduceEqDiff, Nat.reduceAdd, Int.reduceLT, Int.reduceLE, Int.reduceNeg, Int.reduceEq, Nat.reduceLT, Nat.reduceSub, Nat.reduceMul, Nat.reduceBEq, Nat.reduceLeDiff, Int.reduceBEq, Int.reduceBNe, Int.reduceToNat, ne_eq, implies_true, bA]
    refine callR (code_r w3) ?_
    exact ⟨_, rfl, _, _, rfl, by simp [errV], q1, q2, (KeepB.app _ _).trans (k2.trans q3)⟩
theorem Append_i {s Sg : Nat} {sq : Int} {p : Pg} (h : NandF ob N T ops P false) (hops : ops < 1000000) (hT : T.length < 128) (hs : StS ob s Sg N (sttP T.length) (opnP T.length) sq) (hp : mayB (pSeq p 0) = true) (h0 : 0 ≤ sq) (h1 : sq ≤ 1000) (hj : (cM P (ops + 1)).jk.length ≤ 1000) (hk : (cM P (ops + 1)).kd ≠ 2) :
    ICall Tryz.prog 11 [.ref s 0, pP p] ob (AppK ob s Sg N T p ops P sq fun ob' e => WrapAt ob' (errT (cM P (ops + 1))) e) := by
  refine icall_dr Tryz.func11 comp_store_Store_Append ?_
  have y0 : ∀ b : AObj, (ob ++ [b])[ob.length]? = some b := fun b => by simp
  simp (config := {maxSteps := 4000000}) only [U_store_Store_Append, y0, rowP, reduceIte, reduceCtorEq, Nat.reduceEqDiff, Nat.reduceAdd, Int.reduceLT, Int.reduceLE, Int.reduceNeg, Int.reduceEq, Nat.reduceLT, Nat.reduceSub, Nat.reduceMul, Nat.reduceBEq, Nat.reduceLeDiff, Int.reduceBEq, Int.reduceBNe, Int.reduceToNat, ne_eq, implies_true, bA]
  refine callM (append_i (p := p) (NandS.app h _) hops hT (hs.app _) hp h0 h1 hj hk) ?_
  rintro r O2 ⟨r1, e, rfl, rfl, h2, s2, k2⟩
  have b2 := k2 _ _ (by simp [rowP]) (by simp [rowP]) (by simp [rowP]) (y0 (.box (rowP p)))
  simp (config := {maxSteps := 4000000}) only [U_store_Store_Append, b2, rowP, reduceIte, reduceCtorEq, Nat.reduceEqDiff, Nat.reduceAdd, Int.reduceLT, Int.reduceLE, Int.reduceNeg, Int.reduceEq, Nat.reduceLT, Nat.reduceSub, Nat.reduceMul, Nat.reduceBEq, Nat.reduceLeDiff, Int.reduceBEq, Int.reduceBNe, Int.reduceToNat, ne_eq, implies_true, bA]
  refine callM (wrap_i O2 _ _ _) ?_
  rintro r O3 ⟨⟨ex, rfl⟩, w3⟩
  simp (config := {maxSteps := 4000000}) only [U_store_Store_Append, reduceIte, reduceCtorEq, Nat.reduceEqDiff, Nat.reduceAdd, Int.reduceLT, Int.reduceLE, Int.reduceNeg, Int.reduceEq, Nat.reduceLT, Nat.reduceSub, Nat.reduceMul, Nat.reduceBEq, Nat.reduceLeDiff, Int.reduceBEq, Int.reduceBNe, Int.reduceToNat, ne_eq, implies_true, bA]
  exact ⟨_, rfl, _, _, rfl, w3, h2.app _, s2.app _, (KeepB.app _ _).trans (k2.trans (KeepB.app _ _))⟩

end Go.Proofs.YtdgpiobmncohjaaGreatDoor.Aw
