/-
  The array of pages: its small functions.; The array of pages: whether it can answer; which mishap waits.; The array of pages: a page is programmed. Written by a program (mkprog.py).; The array of pages: its other methods.; The array of pages: a plan is laid; its methods as a caller has them.; A page with which the power is lost, as a contract: the statement returns true.
-/
import Derived.Test.YtdgpiobmncohjaaGreatKdn
import Derived.Test.YtdgpiobmncohjaaGreatPag
set_option linter.unusedSimpArgs false
set_option linter.unusedVariables false
namespace Go.Proofs.YtdgpiobmncohjaaGreat.Aw
open Go.RowKit

structure Mis where
  at_ : Int
  kd : Int
  kp : Int
  jk : List UInt8
def rowM (m : Mis) : List PV := [.int .i64 m.at_, .int .i64 m.kd, .int .i64 m.kp, .str m.jk]
def zeroM : Mis := ⟨0, 0, 0, []⟩
/-- A block: its pages, how often it was erased, whether it is bad. -/
structure Bk where
  pg : List (List UInt8)
  wn : Int
  bad : Bool
def zeroK : Bk := ⟨[], 0, false⟩
/-- A block, and where its pages are kept. -/
structure Ent where
  pv : PV
  k : Nat
  b : Bk
def cellsE (e : Ent) : List PV := [e.pv, .int .i64 e.b.wn, .bool e.b.bad]
abbrev rowsS (l : List (List UInt8)) : List (List PV) := l.map fun s => [PV.str s]
abbrev lS (l : List (List UInt8)) : AObj := .list 1 (rowsS l)
abbrev lM (l : List Mis) : AObj := .list 4 (l.map rowM)
def PgAt (ob : List AObj) (e : Ent) : Prop := (e.b.pg = [] ∧ e.pv = .nils) ∨ (e.pv = .osl e.k 0 e.b.pg.length ∧ ob[e.k]? = some (lS e.b.pg))
def PlAt (ob : List AObj) (pl : PV) (pk : Nat) (P : List Mis) : Prop := (P = [] ∧ pl = .nils) ∨ (pl = .osl pk 0 P.length ∧ ob[pk]? = some (lM P))
structure NandAt (ob : List AObj) (N B : Nat) (E : List Ent) (ops : Int) (pl : PV) (pk : Nat) (P : List Mis) (down : Bool) : Prop where
  hN : ob[N]? = some (.box [.int .i64 16, .int .i64 8, .bsl B 0 16, .int .i64 ops, pl, .bool down])
  hB : ob[B]? = some (.box (E.flatMap cellsE))
  len : E.length = 16
  pgs : ∀ e ∈ E, PgAt ob e
  plan : PlAt ob pl pk P
  inj : ∀ (i j : Nat) (a b : Ent), E[i]? = some a → E[j]? = some b → a.pv ≠ .nils → b.pv ≠ .nils → a.k = b.k → i = j
  ops0 : 0 ≤ ops
  ops1 : ops ≤ 1000000
  pl1 : P.length ≤ 1000000
theorem lt_ofN {ob : List AObj} {i : Nat} {a : AObj} (h : ob[i]? = some a) : i < ob.length := (List.getElem?_eq_some_iff.1 h).1
theorem apN {ob : List AObj} {i : Nat} {a : AObj} (h : ob[i]? = some a) (l : List AObj) : (ob ++ l)[i]? = some a := by rw [List.getElem?_append_left (lt_ofN h)]; exact h
theorem NandAt.app {ob : List AObj} {N B E ops pl pk P down} (h : NandAt ob N B E ops pl pk P down) (l : List AObj) : NandAt (ob ++ l) N B E ops pl pk P down where
  hN := apN h.hN l
  hB := apN h.hB l
  len := h.len
  pgs e he := by
    rcases h.pgs e he with h1 | ⟨h1, h2⟩
    · exact .inl h1
    · exact .inr ⟨h1, apN h2 l⟩
  plan := by
    rcases h.plan with h1 | ⟨h1, h2⟩
    · exact .inl h1
    · exact .inr ⟨h1, apN h2 l⟩
  inj := h.inj
  ops0 := h.ops0
  ops1 := h.ops1
  pl1 := h.pl1
/-- Lists of neither pages nor mishaps stay (a list of numbers is neither), and boxes that are not the array's. -/
def isI : List (List PV) → Bool
  | (.int _ _ :: _) :: _ => true
  | _ => false
theorem isI_S (l : List (List UInt8)) : isI (rowsS l) = false := by cases l <;> rfl
def KeepL (ob ob' : List AObj) : Prop := (∀ (i z : Nat) (rows : List (List PV)), (z ≠ 1 ∨ isI rows = true) → z ≠ 4 → ob[i]? = some (AObj.list z rows) → ob'[i]? = some (AObj.list z rows)) ∧
  ∀ (i : Nat) (c : List PV), c.length ≠ 6 → c.length ≠ 48 → ob[i]? = some (AObj.box c) → ob'[i]? = some (AObj.box c)
theorem KeepL.refl (ob : List AObj) : KeepL ob ob := ⟨fun _ _ _ _ _ h => h, fun _ _ _ _ h => h⟩
theorem KeepL.trans {a b c : List AObj} (h : KeepL a b) (k : KeepL b c) : KeepL a c := ⟨fun i z r h1 h2 h3 => k.1 i z r h1 h2 (h.1 i z r h1 h2 h3), fun i r h1 h2 h3 => k.2 i r h1 h2 (h.2 i r h1 h2 h3)⟩
theorem KeepL.app (ob l : List AObj) : KeepL ob (ob ++ l) := ⟨fun i z r _ _ h => apN h l, fun i r _ _ h => apN h l⟩
theorem KeepL.box {ob : List AObj} {i : Nat} {c c' : List PV} (h : ob[i]? = some (.box c)) (hc : c.length = 6 ∨ c.length = 48 := by exact .inl rfl) : KeepL ob (ob.set i (.box c')) := by
  refine ⟨fun j z r _ _ hj => ?_, fun j r h1 h2 hj => ?_⟩
  · rw [List.getElem?_set_ne]; · exact hj
    rintro rfl; rw [h] at hj; cases hj
  · rw [List.getElem?_set_ne]; · exact hj
    rintro rfl; rw [h] at hj; injection hj with hj; injection hj with hj; subst hj
    rcases hc with hc | hc
    · exact h1 hc
    · exact h2 hc
theorem KeepL.ls {ob : List AObj} {i : Nat} {l : List (List UInt8)} {a : AObj} (h : ob[i]? = some (lS l)) : KeepL ob (ob.set i a) := by
  refine ⟨fun j z r h1 _ hj => ?_, fun j r _ _ hj => ?_⟩
  · rw [List.getElem?_set_ne]; · exact hj
    rintro rfl; rw [h] at hj; injection hj with hj; injection hj with hj hr
    rcases h1 with h1 | h1
    · omega
    · rw [← hr, isI_S] at h1; cases h1
  · rw [List.getElem?_set_ne]; · exact hj
    rintro rfl; rw [h] at hj; cases hj
theorem nin_spec (n a b : Int) : PCall Tryz.prog 38 [.int .i64 n, .int .i64 a, .int .i64 b] (.bool (decide (a ≤ n) && decide (n ≤ b))) := by
  refine pcall_dr Tryz.func38 cm35 ?_
  by_cases h0 : a ≤ n
  · have d : decide (a ≤ n) = true := by simpa using h0
    simp only [U35, d, Bool.true_and, seval, bA]
  · have d : decide (a ≤ n) = false := by simpa using h0
    simp only [U35, d, Bool.false_and, seval, bA]
theorem plain_spec : PCall Tryz.prog 19 [] (.agg [.int .i64 16, .int .i64 8]) := by
  refine pcall_dr Tryz.func19 cm64 ?_
  simp only [U64, seval, bA]
/-- An error: none, or a number. -/
def errV (e : Int) : PV := if e = 0 then .nili else .ifc 30 (.int .i64 e)
/-- An error as a caller gets it. -/
def WrapAt (ob : List AObj) (e : Int) (r : PV) : Prop := (e = 0 ∧ r = .nili) ∨ (e ≠ 0 ∧ ∃ o op a, r = .ifc 103 (.ref o 0) ∧ ob[o]? = some (.box [.str op, .int .i64 a, .ifc 30 (.int .i64 e)]))
theorem wrap_i (ob : List AObj) (op : List UInt8) (a e : Int) : ICall Tryz.prog 39 [.str op, .int .i64 a, errV e] ob fun r ob' => (∃ ex, ob' = ob ++ ex) ∧ WrapAt ob' e r := by
  refine icall_dr Tryz.func39 cm16 ?_
  unfold errV
  by_cases h : e = 0
  · rw [if_pos h]
    simp only [U16, seval, bA]
    exact ⟨_, rfl, ⟨[], by simp⟩, .inl ⟨h, rfl⟩⟩
  · rw [if_neg h]
    simp only [U16, seval, bA]
    exact ⟨_, rfl, ⟨_, rfl⟩, .inr ⟨h, _, op, a, rfl, by simp⟩⟩
/-- What is kept of a text that is spoilt. -/
def spoiltS (m : Mis) (s : List UInt8) : List UInt8 := (s.take (min m.kp s.length).toNat ++ m.jk).take 128
theorem spoilt_spec (m : Mis) (s : List UInt8) (hs : s.length ≤ 128) (hj : m.jk.length ≤ 1000) : PCall Tryz.prog 67 [.agg (rowM m), .str s] (.str (spoiltS m s)) := by
  refine pcall_dr Tryz.func67 cm36 ?_
  obtain ⟨z, hz⟩ : ∃ z : Nat, max (min m.kp (s.length : Int)) 0 = (z : Int) := ⟨(min m.kp (s.length : Int)).toNat, by omega⟩
  have hz2 : (min m.kp (s.length : Int)).toNat = z := by omega
  have hzs : z ≤ s.length := by omega
  have s1 := sstrV_to hzs
  obtain ⟨t, ht⟩ : ∃ t, s.take z ++ m.jk = t := ⟨_, rfl⟩
  have htl : (s.take z).length + m.jk.length ≤ 9223372036854775807 := by simp; omega
  have b1 : binS .add (s.take z) m.jk = some (.str t) := by rw [binS_add htl, ht]
  obtain ⟨y, hy⟩ : ∃ y : Nat, min (t.length : Int) 128 = (y : Int) := ⟨min t.length 128, by omega⟩
  have s2 : sstrV (.str t) (some none) (some (some (y : Int))) = some (.str (t.take y)) := sstrV_to (by omega)
  have hv : spoiltS m s = t.take y := by
    rw [spoiltS, hz2, ht]
    by_cases h : t.length ≤ 128
    · rw [List.take_of_length_le h, List.take_of_length_le (by omega)]
    · rw [show y = 128 by omega]
  rw [hv]
  simp only [U36, rowM, hz, hy, s1, s2, b1, seval, bA]
theorem page_r {ob : List AObj} {N B E ops pl pk P down} (h : NandAt ob N B E ops pl pk P down) (i : Int) : RCall Tryz.prog 65 [.ref N 0, .int .i64 i] ob (.bool (decide (0 ≤ i) && decide (i < 128))) := by
  refine RCall.of (K := fun r ob' => r = .bool (decide (0 ≤ i) && decide (i < 128)) ∧ ob' = ob) ?_ (fun r ob' h => ⟨h.1, [], by rw [h.2]; simp⟩) rfl
  refine icall_dr Tryz.func65 cm28 ?_
  have hN := h.hN
  have w : IntKind.i64.wrap ((16 : Int) * 8) = 128 := by decide
  by_cases h0 : 0 ≤ i
  · have d : decide (0 ≤ i) = true := by simpa using h0
    simp only [U28, d, hN, w, Bool.true_and, seval, bA]
    exact ⟨_, rfl, rfl⟩
  · have d : decide (0 ≤ i) = false := by simpa using h0
    simp only [U28, d, hN, w, Bool.false_and, seval, bA]
    exact ⟨_, rfl, rfl⟩

end Go.Proofs.YtdgpiobmncohjaaGreat.Aw
namespace Go.Proofs.YtdgpiobmncohjaaGreat.Aw
open Go.RowKit

variable {ob : List AObj} {N B : Nat} {E : List Ent} {ops : Int} {pl : PV} {pk : Nat} {P : List Mis} {down : Bool}

theorem ready_i (h : NandAt ob N B E ops pl pk P false) {g : Nat} {cap : List PV} (hm : ICall Tryz.prog g cap ob fun r ob' => r = .bool true ∧ ob' = ob) :
    ICall Tryz.prog 63 [.ref N 0, .fn (.func g) [] cap] ob fun r ob' => r = .nili ∧ ob' = ob := by
  refine icall_dr Tryz.func63 cm33 ?_
  have hN := h.hN
  simp only [U33, hN, seval, bA]
  refine callM hm ?_
  rintro r ob' ⟨rfl, rfl⟩
  simp only [U33, hN, seval, bA]
  exact ⟨_, rfl, rfl⟩
theorem progc_i (h : NandAt ob N B E ops pl pk P down) {c1 c2 c3 : Nat} {pg : Nat} {s : List UInt8} (h1 : ob[c1]? = some (.box [.ref N 0])) (h2 : ob[c2]? = some (.box [.int .i64 (pg : Int)])) (h3 : ob[c3]? = some (.box [.str s])) (hp : pg < 128) (hs : s.length ≤ 128) :
    ICall Tryz.prog 64 [.ref c1 0, .ref c2 0, .ref c3 0] ob fun r ob' => r = .bool true ∧ ob' = ob := by
  refine icall_dr Tryz.func64 cm30 ?_
  have hr := page_r h (pg : Int)
  have e : (decide ((0 : Int) ≤ (pg : Int)) && decide ((pg : Int) < 128)) = true := by simp; omega
  rw [e] at hr
  have d : decide ((s.length : Int) ≤ 128) = true := by simp; omega
  simp only [U30, h1, h2, seval, bA]
  refine callR hr ?_
  simp only [U30, h3, d, seval, bA]
  exact ⟨_, rfl, rfl⟩
theorem readc_i (h : NandAt ob N B E ops pl pk P down) {c1 c2 : Nat} {pg : Nat} (h1 : ob[c1]? = some (.box [.ref N 0])) (h2 : ob[c2]? = some (.box [.int .i64 (pg : Int)])) (hp : pg < 128) :
    ICall Tryz.prog 68 [.ref c1 0, .ref c2 0] ob fun r ob' => r = .bool true ∧ ob' = ob := by
  refine icall_dr Tryz.func68 cm32 ?_
  have hr := page_r h (pg : Int)
  have e : (decide ((0 : Int) ≤ (pg : Int)) && decide ((pg : Int) < 128)) = true := by simp; omega
  rw [e] at hr
  simp only [U32, h1, h2, seval, bA]
  refine callR hr ?_
  exact ⟨_, rfl, rfl⟩
/-- A box of the array's. -/
def boxN (B : Nat) (ops : Int) (pl : PV) (down : Bool) : AObj := .box [.int .i64 16, .int .i64 8, .bsl B 0 16, .int .i64 ops, pl, .bool down]
theorem countc_i {c : Nat} {m : Mis} (hc : ob[c]? = some (.box [.ref N 0])) (hN : ob[N]? = some (.box [.int .i64 16, .int .i64 8, .bsl B 0 16, .int .i64 ops, pl, .bool down])) :
    ICall Tryz.prog 79 [.agg (rowM m), .ref c 0] ob fun r ob' => r = .bool (m.at_ == ops) ∧ ∃ ex, ob' = ob ++ ex := by
  refine icall_dr Tryz.func79 cm27 ?_
  have hc2 : ∀ b, (ob ++ [b])[c]? = some (.box [.ref N 0]) := fun b => apN hc [b]
  have hN2 : ∀ b, (ob ++ [b])[N]? = some (.box [.int .i64 16, .int .i64 8, .bsl B 0 16, .int .i64 ops, pl, .bool down]) := fun b => apN hN [b]
  have g1 : ∀ b, (ob ++ [b])[ob.length]? = some b := fun b => by simp
  simp only [U27, rowM, hc2, hN2, g1, seval, bA]
  exact ⟨_, rfl, rfl, _, rfl⟩
/-- The place of the mishap that waits for an operation: none: -1. -/
def IdxM (P : List Mis) (k : Int) (r : PV) : Prop := (∃ i m, P[i]? = some m ∧ P.find? (fun x => x.at_ == k) = some m ∧ r = .int .i64 ((i : Nat) : Int)) ∨ (P.find? (fun x => x.at_ == k) = none ∧ r = .int .i64 (-1))
theorem lt_ofM {P : List Mis} {i : Nat} {a : Mis} (h : P[i]? = some a) : i < P.length := (List.getElem?_eq_some_iff.1 h).1
theorem find_at {P : List Mis} {k : Int} {i : Nat} {m : Mis} (h : P[i]? = some m) (hm : (m.at_ == k) = true) (hn : ∀ x ∈ P.take i, (x.at_ == k) = false) : P.find? (fun x => x.at_ == k) = some m := by
  have hi := lt_ofM h
  rw [← List.take_append_drop i P, List.find?_append, List.find?_eq_none.2 (by simpa using hn), List.drop_eq_getElem_cons hi]
  have : P[i] = m := by rw [List.getElem?_eq_getElem hi] at h; exact Option.some.inj h
  simp [this, hm]
theorem idx_i {c : Nat} (hc : ob[c]? = some (.box [.ref N 0])) (hN : ob[N]? = some (.box [.int .i64 16, .int .i64 8, .bsl B 0 16, .int .i64 ops, pl, .bool down])) (hp : PlAt ob pl pk P) (hP : P.length ≤ 1000000) :
    ICall Tryz.prog 78 [pl, .fn (.func 79) [] [.ref c 0]] ob fun r ob' => IdxM P ops r ∧ ∃ ex, ob' = ob ++ ex := by
  refine icall_dr Tryz.func78 cm54 ?_
  rcases hp with ⟨rfl, hp2⟩ | ⟨hpl, hp2⟩
  · rw [hp2]
    simp only [U54, seval, bA]
    refine loopF (fun _ : Unit => ⟨ofL [(0, .nils), (1, .fn (.func 79) [] [.ref c 0]), (7, .int .i64 0), (8, .int .i64 0)], ob⟩) (fun _ => True) (fun _ => 0) () ?_ trivial ?_
    · simp only [U54, seval, bA]
      all_goals rfl
    · rintro ⟨⟩ -
      simp only [U54, seval, bA]
      exact ⟨_, rfl, .inr ⟨rfl, rfl⟩, [], by simp⟩
  · rw [hpl]
    rw [hpl] at hN
    have hr : rowsO (some (lM P)) 0 P.length = some (P.map rowM) := rowsO_all (by simp)
    simp only [U54, hp2, hr, seval, bA]
    refine loopF (fun s : Nat × List AObj => ⟨ofL [(0, .osl pk 0 P.length), (1, .fn (.func 79) [] [.ref c 0]), (7, .int .i64 (P.length : Int)), (8, .int .i64 (s.1 : Int))], s.2⟩)
      (fun s => s.1 ≤ P.length ∧ (∃ ex, s.2 = ob ++ ex) ∧ ∀ x ∈ P.take s.1, (x.at_ == ops) = false) (fun s => P.length - s.1) (0, ob) ?_ ⟨Nat.zero_le _, ⟨[], by simp⟩, fun x hx => by simp at hx⟩ ?_
    · simp only [U54, seval, bA]
      all_goals rfl
    · rintro ⟨i, OB⟩ ⟨hi, ⟨ex, hex⟩, hn⟩
      simp only at hi hex hn ⊢
      subst hex
      by_cases hlt : i < P.length
      · have d : decide ((i : Int) < (P.length : Int)) = true := by simpa using hlt
        have w1 : IntKind.i64.wrap ((i : Int) + 1) = ((i + 1 : Nat) : Int) := by rw [wrapI (by omega) (by omega)]; omega
        have p2 := apN hp2 ex
        have i1 := islO_map (g := rowM) (l := P) (e := 4) (o := pk) (m := P.length) (k := .i64) rfl hlt
        have i2 := ldL_map (g := rowM) (l := P) (e := 4) (len := P.length) (off := 0) (n := 4) rfl hlt (by simp [rowM])
        have i3 : ((rowM P[i]).drop 0).take 4 = rowM P[i] := by simp [rowM]
        rw [i3] at i2
        simp only [U54, d, p2, i1, i2, seval, bA]
        refine callM (countc_i (m := P[i]) (apN hc ex) (apN hN ex)) ?_
        rintro r ob' ⟨rfl, ex2, rfl⟩
        cases hm : (P[i].at_ == ops) with
        | true =>
          simp only [U54, seval, bA]
          have hg := List.getElem?_eq_getElem hlt
          exact ⟨_, rfl, .inl ⟨i, P[i], hg, find_at hg hm hn, rfl⟩, ex ++ ex2, by simp⟩
        | false =>
          simp only [U54, w1, seval, bA]
          refine ⟨(i + 1, ob ++ (ex ++ ex2)), by simp, ⟨hlt, ⟨_, rfl⟩, fun x hx => ?_⟩, by simp only; omega⟩
          simp only at hx
          rw [List.take_succ_eq_append_getElem hlt, List.mem_append, List.mem_singleton] at hx
          rcases hx with hx | rfl
          · exact hn x hx
          · exact hm
      · have d : decide ((i : Int) < (P.length : Int)) = false := by simpa using hlt
        rw [List.take_of_length_le (by omega)] at hn
        simp only [U54, d, seval, bA]
        exact ⟨_, rfl, .inr ⟨List.find?_eq_none.2 (by simpa using hn), rfl⟩, ex, rfl⟩
/-- The mishap that waits for an operation. -/
def cM (P : List Mis) (k : Int) : Mis := (P.find? fun x => x.at_ == k).getD zeroM
theorem count_i (h : NandAt ob N B E ops pl pk P down) : ICall Tryz.prog 66 [.ref N 0] ob fun r ob' => r = .agg (rowM (cM P (ops + 1))) ∧ ∃ ex, ob' = ob.set N (boxN B (ops + 1) pl down) ++ ex := by
  refine icall_dr Tryz.func66 cm26 ?_
  have hN := h.hN
  have h0 := h.ops0
  have h1 := h.ops1
  have hlt := lt_ofN hN
  have w1 : IntKind.i64.wrap (ops + 1) = ops + 1 := wrapI (by omega) (by omega)
  have hN2 : ∀ l, (ob ++ l)[N]? = some (.box [.int .i64 16, .int .i64 8, .bsl B 0 16, .int .i64 ops, pl, .bool down]) := fun l => apN hN l
  have g0 : ∀ l, (ob ++ l)[ob.length]? = l[0]? := fun l => by rw [List.getElem?_append_right (Nat.le_refl _)]; simp
  have g1 : ∀ l, (ob ++ l)[ob.length + 1]? = l[1]? := fun l => by rw [List.getElem?_append_right (by omega)]; simp
  have s1 : ∀ (l : List AObj) c, (ob ++ l).set N c = ob.set N c ++ l := fun l c => by rw [List.set_append_left _ _ hlt]
  have q0 : ∀ c l, (ob.set N c ++ l)[ob.length]? = l[0]? := fun c l => by rw [List.getElem?_append_right (by simp)]; simp
  have q1 : ∀ c l, (ob.set N c ++ l)[ob.length + 1]? = l[1]? := fun c l => by rw [List.getElem?_append_right (by simp)]; simp
  have q2 : ∀ c l, (ob.set N c ++ l)[N]? = some c := fun c l => by rw [List.getElem?_append_left (by simpa using hlt)]; exact set_get hN
  have s2 : ∀ c (l : List AObj) x, (ob.set N c ++ l).set (ob.length + 1) x = ob.set N c ++ l.set 1 x := fun c l x => by rw [List.set_append_right _ _ (by simp)]; simp
  have hpl2 : ∀ c l, PlAt (ob.set N c ++ l) pl pk P := fun c l => by
    rcases h.plan with g | ⟨g, g'⟩
    · exact .inl g
    · refine .inr ⟨g, apN ?_ l⟩
      rw [List.getElem?_set_ne]; · exact g'
      rintro rfl; rw [hN] at g'; cases g'
  simp only [U26, hN2, g0, g1, s1, w1, q0, q1, q2, seval, bA]
  refine callM (idx_i (q0 _ _) (q2 _ _) (hpl2 _ _) h.pl1) ?_
  rintro r ob' ⟨hI, ex, rfl⟩
  rcases hI with ⟨i, m, hi, hf, rfl⟩ | ⟨hf, rfl⟩
  · have d : decide (((i : Nat) : Int) < 0) = false := by simp
    have hm : cM P (ops + 1) = m := by rw [cM, hf]; rfl
    rw [hm]
    have hlt2 := lt_ofM hi
    have hPi : P[i] = m := by rw [List.getElem?_eq_getElem hlt2] at hi; exact Option.some.inj hi
    have hpl3 : pl = .osl pk 0 P.length := by
      rcases h.plan with ⟨g, _⟩ | ⟨g, _⟩
      · rw [g] at hlt2; simp at hlt2
      · exact g
    have p2 : ∀ c l, (ob.set N c ++ l)[pk]? = some (lM P) := fun c l => by
      rcases hpl2 c l with ⟨g, _⟩ | ⟨_, g⟩
      · rw [g] at hlt2; simp at hlt2
      · exact g
    have i1 := islO_map (g := rowM) (l := P) (e := 4) (o := pk) (m := P.length) (k := .i64) rfl hlt2
    have i2 := ldL_map (g := rowM) (l := P) (e := 4) (len := P.length) (off := 0) (n := 4) rfl hlt2 (by simp [rowM])
    have i3 : ((rowM P[i]).drop 0).take 4 = rowM P[i] := by simp [rowM]
    rw [i3, hPi] at i2
    simp only [List.append_assoc]
    subst hpl3
    simp only [U26, hN2, g0, g1, s1, w1, q0, q1, q2, s2, d, p2, i1, i2, rowM, seval, bA]
    exact ⟨_, rfl, rfl, _, rfl⟩
  · have hm : cM P (ops + 1) = zeroM := by rw [cM, hf]; rfl
    rw [hm]
    simp only [List.append_assoc]
    simp only [U26, hN2, g0, g1, s1, w1, q0, q1, q2, s2, rowM, zeroM, seval, bA]
    exact ⟨_, rfl, rfl, _, rfl⟩

end Go.Proofs.YtdgpiobmncohjaaGreat.Aw
namespace Go.Proofs.YtdgpiobmncohjaaGreat.Aw
open Go.RowKit

theorem flat_at {E : List Ent} {b : Nat} {e : Ent} (h : E[b]? = some e) : ∃ E1 E2, E = E1 ++ e :: E2 ∧ E1.length = b ∧ (E1.flatMap cellsE).length = 3 * b := by
  have hb : b < E.length := (List.getElem?_eq_some_iff.1 h).1
  have he : E[b] = e := by rw [List.getElem?_eq_getElem hb] at h; exact Option.some.inj h
  refine ⟨E.take b, E.drop (b + 1), ?_, by simp; omega, ?_⟩
  · rw [← he, ← List.drop_eq_getElem_cons hb, List.take_append_drop]
  · have : ∀ l : List Ent, (l.flatMap cellsE).length = 3 * l.length := fun l => by
      induction l with
      | nil => rfl
      | cons x l ih => rw [List.flatMap_cons, List.length_append, ih]; simp [cellsE]; omega
    rw [this]; simp; omega
theorem flat_len3 : ∀ l : List Ent, (l.flatMap cellsE).length = 3 * l.length
  | [] => rfl
  | x :: l => by rw [List.flatMap_cons, List.length_append, flat_len3 l]; simp [cellsE]; omega
theorem ldE {E : List Ent} {b j : Nat} {e : Ent} {v : PV} (h : E[b]? = some e) (hj : (cellsE e)[j]? = some v) : ldB (some (.box (E.flatMap cellsE))) (3 * b + j) 1 = some [v] := by
  obtain ⟨E1, E2, rfl, h1, h2⟩ := flat_at h
  have h3 : j < 3 := by have := (List.getElem?_eq_some_iff.1 hj).1; simpa [cellsE] using this
  rw [List.flatMap_append, List.flatMap_cons]
  have e1 : (List.flatMap cellsE E1 ++ (cellsE e ++ List.flatMap cellsE E2)).drop (3 * b + j) = (cellsE e).drop j ++ List.flatMap cellsE E2 := by
    rw [← List.drop_drop, List.drop_left' h2, List.drop_append_of_le_length (by simp [cellsE]; omega)]
  simp only [ldB]
  rw [if_pos (by simp [cellsE] at h2 ⊢; omega), e1]
  rcases j with _ | _ | _ | j
  · simp [cellsE] at hj ⊢; exact hj
  · simp [cellsE] at hj ⊢; exact hj
  · simp [cellsE] at hj ⊢; exact hj
  · omega
theorem stE {ob : List AObj} {B : Nat} {E : List Ent} {b j : Nat} {e e' : Ent} {v : PV} (h : E[b]? = some e) (hj : j < 3) (he : cellsE e' = (cellsE e).set j v) : stB ob B (some (.box (E.flatMap cellsE))) (3 * b + j) [v] = some (.bot, ob.set B (.box ((E.set b e').flatMap cellsE))) := by
  obtain ⟨E1, E2, rfl, h1, h2⟩ := flat_at h
  have e2 : (E1 ++ e :: E2).set b e' = E1 ++ e' :: E2 := by subst h1; simp
  rw [e2, List.flatMap_append, List.flatMap_cons, List.flatMap_append, List.flatMap_cons, he]
  simp only [stB]
  rw [if_pos (by simp [cellsE] at h2 ⊢; omega)]
  generalize hF : List.flatMap cellsE E1 = F at *
  generalize List.flatMap cellsE E2 = G
  have e3 : setAt (F ++ (cellsE e ++ G)) (3 * b + j) [v] = F ++ ((cellsE e).set j v ++ G) := by
    rw [setAt, ← h2, List.take_append, List.drop_append, List.length_singleton]
    have t1 : ∀ n, F.take (F.length + n) = F := fun n => List.take_of_length_le (by omega)
    have t2 : ∀ n, F.drop (F.length + n) = [] := fun n => List.drop_of_length_le (by omega)
    rcases j with _ | _ | _ | j
    · simp [cellsE, t2]
    · simp [cellsE, Nat.add_assoc, t1, t2]
    · simp [cellsE, Nat.add_assoc, t1, t2]
    · omega
  rw [e3]
theorem ne_kind {ob : List AObj} {i j : Nat} {c : List PV} {z : Nat} {r : List (List PV)} (h : ob[i]? = some (.box c)) (h' : ob[j]? = some (.list z r)) : i ≠ j := by rintro rfl; rw [h] at h'; cases h'
theorem ne_NB {ob : List AObj} {N B : Nat} {E : List Ent} {ops : Int} {pl : PV} {pk : Nat} {P : List Mis} {down : Bool} (h : NandAt ob N B E ops pl pk P down) : N ≠ B := by
  intro e
  have h1 := h.hN
  rw [e, h.hB] at h1
  injection h1 with h1; injection h1 with h1
  have h2 := congrArg List.length h1
  have h3 : ∀ l : List Ent, (l.flatMap cellsE).length = 3 * l.length := fun l => by
    induction l with
    | nil => rfl
    | cons x l ih => rw [List.flatMap_cons, List.length_append, ih]; simp [cellsE]; omega
  rw [h3, h.len] at h2
  simp at h2
theorem ne_kb {ob : List AObj} {i j : Nat} {a b : List PV} (h : ob[i]? = some (.box a)) (h' : ob[j]? = some (.box b)) (e : j = i) (hl : a.length = 1 := by rfl) (hb : b.length ≠ 1 := by assumption) : False := by subst e; rw [h] at h'; injection h' with h'; injection h' with h'; rw [h'] at hl; exact hb hl
theorem ne_13 {ob : List AObj} {i j : Nat} {l : List (List UInt8)} {m : List Mis} (h : ob[i]? = some (lS l)) (h' : ob[j]? = some (lM m)) : i ≠ j := by rintro rfl; rw [h] at h'; injection h' with h'; injection h' with h'; omega
/-- One block is another one now. -/
theorem NandAt.upd {ob ob' : List AObj} {N B : Nat} {E : List Ent} {ops ops' : Int} {pl : PV} {pk : Nat} {P : List Mis} {down down' : Bool} {b : Nat} (h : NandAt ob N B E ops pl pk P down) (e' : Ent)
    (hN : ob'[N]? = some (.box [.int .i64 16, .int .i64 8, .bsl B 0 16, .int .i64 ops', pl, .bool down'])) (hB : ob'[B]? = some (.box ((E.set b e').flatMap cellsE))) (hpg : PgAt ob' e')
    (hoth : ∀ (j : Nat) (f : Ent), E[j]? = some f → j ≠ b → PgAt ob' f) (hpl : PlAt ob' pl pk P) (hdis : e'.pv ≠ .nils → ∀ (j : Nat) (f : Ent), E[j]? = some f → j ≠ b → f.pv ≠ .nils → f.k ≠ e'.k) (h0 : 0 ≤ ops') (h1 : ops' ≤ 1000000) :
    NandAt ob' N B (E.set b e') ops' pl pk P down' where
  hN := hN
  hB := hB
  len := by rw [List.length_set]; exact h.len
  pgs x hx := by
    obtain ⟨j, hj⟩ := List.mem_iff_getElem?.1 hx
    by_cases hjb : j = b
    · subst hjb
      rw [List.getElem?_set_self' ] at hj
      cases hh : E[j]? with
      | none => rw [hh] at hj; cases hj
      | some y => rw [hh] at hj; cases hj; exact hpg
    · rw [List.getElem?_set_ne (fun e => hjb e.symm)] at hj
      exact hoth j x hj hjb
  plan := hpl
  inj i j x y hx hy nx ny hk := by
    by_cases hi : i = b
    · by_cases hj : j = b
      · rw [hi, hj]
      · subst hi
        rw [List.getElem?_set_self'] at hx
        rw [List.getElem?_set_ne (fun e => hj e.symm)] at hy
        cases hh : E[i]? with
        | none => rw [hh] at hx; cases hx
        | some z => rw [hh] at hx; cases hx; exact absurd hk.symm (hdis nx j y hy hj ny)
    · rw [List.getElem?_set_ne (fun e => hi e.symm)] at hx
      by_cases hj : j = b
      · subst hj
        rw [List.getElem?_set_self'] at hy
        cases hh : E[j]? with
        | none => rw [hh] at hy; cases hy
        | some z => rw [hh] at hy; cases hy; exact absurd hk (hdis ny i x hx hi nx)
      · rw [List.getElem?_set_ne (fun e => hj e.symm)] at hy
        exact h.inj i j x y hx hy nx ny hk
  ops0 := h0
  ops1 := h1
  pl1 := h.pl1
theorem NandAt.turn {ob : List AObj} {N B : Nat} {E : List Ent} {ops : Int} {pl : PV} {pk : Nat} {P : List Mis} {down : Bool} (h : NandAt ob N B E ops pl pk P down) (d : Bool) :
    NandAt (ob.set N (.box [.int .i64 16, .int .i64 8, .bsl B 0 16, .int .i64 ops, pl, .bool d])) N B E ops pl pk P d ∧ KeepL ob (ob.set N (.box [.int .i64 16, .int .i64 8, .bsl B 0 16, .int .i64 ops, pl, .bool d])) := by
  refine ⟨⟨set_get h.hN, ?_, h.len, fun f hf => ?_, ?_, h.inj, h.ops0, h.ops1, h.pl1⟩, KeepL.box h.hN⟩
  · rw [List.getElem?_set_ne (ne_NB h)]; exact h.hB
  · rcases h.pgs f hf with y | ⟨y1, y2⟩
    · exact .inl y
    · exact .inr ⟨y1, by rw [List.getElem?_set_ne (ne_kind h.hN y2)]; exact y2⟩
  · rcases h.plan with y | ⟨y1, y2⟩
    · exact .inl y
    · exact .inr ⟨y1, by rw [List.getElem?_set_ne (ne_kind h.hN y2)]; exact y2⟩
theorem NandAt.new {X : List AObj} {N B : Nat} {E : List Ent} {ops : Int} {pl : PV} {pk : Nat} {P : List Mis} {down : Bool} {b : Nat} (h : NandAt X N B E ops pl pk P down) (bm : AObj) (t : List UInt8) (e' : Ent) (h1 : e'.pv = .osl (X.length + 1) 0 1) (h2 : e'.k = X.length + 1) (h3 : e'.b.pg = [t]) :
    NandAt ((X ++ [bm, lS [t]]).set B (.box ((E.set b e').flatMap cellsE))) N B (E.set b e') ops pl pk P down ∧ KeepL X ((X ++ [bm, lS [t]]).set B (.box ((E.set b e').flatMap cellsE))) := by
  have hB := apN h.hB [bm, lS [t]]
  have keep : ∀ (i z : Nat) (r : List (List PV)), X[i]? = some (.list z r) → ((X ++ [bm, lS [t]]).set B (.box ((E.set b e').flatMap cellsE)))[i]? = some (.list z r) := fun i z r hi => by
    rw [List.getElem?_set_ne (ne_kind h.hB hi)]; exact apN hi _
  refine ⟨h.upd e' ?_ (set_get hB) ?_ (fun j f hf _ => ?_) ?_ (fun _ j f hf _ nf hk => ?_) h.ops0 h.ops1, (KeepL.app _ _).trans (KeepL.box hB (.inr (by rw [flat_len3, h.len])))⟩
  · rw [List.getElem?_set_ne (fun e => ne_NB h e.symm)]; exact apN h.hN _
  · refine .inr ⟨by rw [h1, h2, h3]; rfl, ?_⟩
    have := lt_ofN h.hB
    rw [h2, h3, List.getElem?_set_ne (by omega), List.getElem?_append_right (by omega)]; simp
  · rcases h.pgs f (List.mem_of_getElem? hf) with y | ⟨y1, y2⟩
    · exact .inl y
    · exact .inr ⟨y1, keep _ _ _ y2⟩
  · rcases h.plan with y | ⟨y1, y2⟩
    · exact .inl y
    · exact .inr ⟨y1, keep _ _ _ y2⟩
  · rcases h.pgs f (List.mem_of_getElem? hf) with y | ⟨y1, y2⟩
    · exact nf y.2
    · have := lt_ofN y2; omega
theorem NandAt.more {X : List AObj} {N B : Nat} {E : List Ent} {ops : Int} {pl : PV} {pk : Nat} {P : List Mis} {down : Bool} {b : Nat} {e : Ent} (h : NandAt X N B E ops pl pk P down) (he : E[b]? = some e) (x : List AObj) (t : List UInt8) (e' : Ent) (g1 : e.pv = .osl e.k 0 e.b.pg.length) (g2 : X[e.k]? = some (lS e.b.pg))
    (h1 : e'.pv = .osl e.k 0 (e.b.pg.length + 1)) (h2 : e'.k = e.k) (h3 : e'.b.pg = e.b.pg ++ [t]) :
    NandAt (((X ++ x).set e.k (lS (e.b.pg ++ [t]))).set B (.box ((E.set b e').flatMap cellsE))) N B (E.set b e') ops pl pk P down ∧ KeepL X (((X ++ x).set e.k (lS (e.b.pg ++ [t]))).set B (.box ((E.set b e').flatMap cellsE))) := by
  have hB := apN h.hB x
  have hk := apN g2 x
  have nB := ne_kind h.hB g2
  have nN := ne_kind h.hN g2
  have keep : ∀ (i z : Nat) (r : List (List PV)), i ≠ e.k → X[i]? = some (.list z r) → (((X ++ x).set e.k (lS (e.b.pg ++ [t]))).set B (.box ((E.set b e').flatMap cellsE)))[i]? = some (.list z r) := fun i z r hne hi => by
    rw [List.getElem?_set_ne (ne_kind h.hB hi), List.getElem?_set_ne (fun e => hne e.symm)]; exact apN hi _
  refine ⟨h.upd e' ?_ (set_get (by rw [List.getElem?_set_ne (fun e => nB e.symm)]; exact hB)) ?_ (fun j f hf hj => ?_) ?_ (fun _ j f hf hj nf hk2 => ?_) h.ops0 h.ops1, ((KeepL.app _ _).trans (KeepL.ls hk)).trans (KeepL.box (by rw [List.getElem?_set_ne (fun e => nB e.symm)]; exact hB) (.inr (by rw [flat_len3, h.len])))⟩
  · rw [List.getElem?_set_ne (fun e => ne_NB h e.symm), List.getElem?_set_ne (fun e => nN e.symm)]; exact apN h.hN _
  · refine .inr ⟨by rw [h1, h2, h3]; simp, ?_⟩
    rw [h2, h3, List.getElem?_set_ne nB]; exact set_get hk
  · rcases h.pgs f (List.mem_of_getElem? hf) with y | ⟨y1, y2⟩
    · exact .inl y
    · refine .inr ⟨y1, keep _ _ _ (fun ek => hj ?_) y2⟩
      exact h.inj j b f e hf he (by rw [y1]; simp) (by rw [g1]; simp) ek
  · rcases h.plan with y | ⟨y1, y2⟩
    · exact .inl y
    · exact .inr ⟨y1, keep _ _ _ (fun ek => by rw [ek] at y2; exact ne_13 g2 y2 rfl) y2⟩
  · rcases h.pgs f (List.mem_of_getElem? hf) with y | ⟨y1, y2⟩
    · exact nf y.2
    · exact hj (h.inj j b f e hf he nf (by rw [g1]; simp) (by rw [hk2, h2]))
/-- What a programmed page is; what the array does then. -/
def pageT (m : Mis) (s : List UInt8) : List UInt8 := if m.kd = 1 ∨ m.kd = 2 then spoiltS m s else s
def errT (m : Mis) : Int := if m.kd = 1 then 9 else if m.kd = 2 then 41 else 0
abbrev ProgK (ob : List AObj) (N B b : Nat) (E : List Ent) (ops : Int) (pl : PV) (pk : Nat) (P : List Mis) (bk : Bk) (down : Bool) (err : Int) : PV → List AObj → Prop := fun r ob' =>
  ∃ E', NandAt ob' N B E' (ops + 1) pl pk P down ∧ KeepL ob ob' ∧ r = errV err ∧ E'.map (·.b) = (E.map (·.b)).set b bk
theorem map_set (E : List Ent) (b : Nat) (e : Ent) : (E.set b e).map (·.b) = (E.map (·.b)).set b e.b := by rw [List.map_set]
theorem prog_i {ob : List AObj} {N B : Nat} {E : List Ent} {ops : Int} {pl : PV} {pk : Nat} {P : List Mis} {b k : Nat} {e : Ent} {s : List UInt8} (h : NandAt ob N B E ops pl pk P false) (hops : ops < 1000000) (he : E[b]? = some e) (hk : k < 8) (hbad : e.b.bad = false) (hlen : e.b.pg.length = k) (hs : s.length ≤ 128)
    (hj : (cM P (ops + 1)).jk.length ≤ 1000) {pg : Int} (hpg : pg = ((8 * b + k : Nat) : Int)) :
    ICall Tryz.prog 44 [.ref N 0, .int .i64 pg, .str s] ob (ProgK ob N B b E ops pl pk P ⟨e.b.pg ++ [pageT (cM P (ops + 1)) s], e.b.wn, decide ((cM P (ops + 1)).kd = 2)⟩ (decide ((cM P (ops + 1)).kd = 1)) (errT (cM P (ops + 1)))) := by
  subst hpg
  refine icall_dr Tryz.func44 cm29 ?_
  have hb : b < 16 := by have := (List.getElem?_eq_some_iff.1 he).1; rw [h.len] at this; exact this
  obtain ⟨W, hW⟩ : ∃ W, ob ++ [AObj.box [.ref N 0], AObj.box [.int .i64 ((8 * b + k : Nat) : Int)], AObj.box [.str s]] = W := ⟨_, rfl⟩
  have hA : NandAt W N B E ops pl pk P false := by rw [← hW]; exact h.app _
  have c0 : W[ob.length]? = some (.box [.ref N 0]) := by rw [← hW, List.getElem?_append_right (Nat.le_refl _)]; simp
  have c1 : W[ob.length + 1]? = some (.box [.int .i64 ((8 * b + k : Nat) : Int)]) := by rw [← hW, List.getElem?_append_right (by omega)]; simp
  have c2 : W[ob.length + 2]? = some (.box [.str s]) := by rw [← hW, List.getElem?_append_right (by omega)]; simp
  have kW : KeepL ob W := by rw [← hW]; exact KeepL.app _ _
  simp only [U29, hW, c0, seval, bA]
  refine callM (ready_i hA (progc_i hA c0 c1 c2 (by omega) hs)) ?_
  rintro r ob' ⟨rfl, e9⟩
  rw [e9]
  clear e9 ob'
  have hN := hA.hN
  have hB := hA.hB
  have d1 : IntKind.i64.wrap (((8 * b + k : Nat) : Int).tdiv 8) = (b : Int) := by
    have : ((8 * b + k : Nat) : Int).tdiv 8 = (b : Int) := by rw [Int.tdiv_eq_ediv_of_nonneg (by omega)]; omega
    rw [this, wrapI (by omega) (by omega)]
  have d2 : ((8 * b + k : Nat) : Int).tmod 8 = (k : Int) := by rw [Int.tmod_eq_emod_of_nonneg (by omega)]; omega
  have i1 : ∀ o : List AObj, islV o [] 3 (.bsl B 0 16) (.int .i64 (b : Int)) = some (.ref B (3 * b)) := fun o => by
    rw [islV_bsl (by simp; omega)]; simp; omega
  have l0 := ldE (j := 0) (v := e.pv) he rfl
  have l2 := ldE (j := 2) (v := .bool false) he (by simp [cellsE, hbad])
  simp only [Nat.add_zero] at l0
  have hpgs := hA.pgs e (List.mem_of_getElem? he)
  have dn : ((k : Int) != (k : Int)) = false := by simp
  rcases hpgs with ⟨g1, g2⟩ | ⟨g1, g2⟩
  · have k0 : k = 0 := by rw [g1] at hlen; simpa using hlen.symm
    rw [g2] at l0
    have dn : ((k : Int) != 0) = false := by simp [k0]
    simp only [U29, c0, c1, hN, hB, d1, d2, i1, l0, l2, dn, seval, bA]
    refine callM (count_i hA) ?_
    rintro r ob' ⟨rfl, ex, hob'⟩
    rw [hob']
    obtain ⟨m, hm⟩ : ∃ m, cM P (ops + 1) = m := ⟨_, rfl⟩
    rw [hm] at hj ⊢
    obtain ⟨X, hX⟩ : ∃ X, W.set N (boxN B (ops + 1) pl false) ++ ex = X := ⟨_, rfl⟩
    rw [hX]
    have nNB := ne_NB hA
    have sx : ∀ i a, W[i]? = some a → i ≠ N → X[i]? = some a := fun i a h1 h2 => by rw [← hX]; exact apN (by rw [List.getElem?_set_ne (fun e => h2 e.symm)]; exact h1) ex
    have xN : X[N]? = some (.box [.int .i64 16, .int .i64 8, .bsl B 0 16, .int .i64 (ops + 1), pl, .bool false]) := by rw [← hX]; exact apN (set_get hN) ex
    have xB := sx B _ hB (fun e => nNB e.symm)
    have n0 : ob.length ≠ N := by have := lt_ofN h.hN; omega
    have n2 : ob.length + 2 ≠ N := by have := lt_ofN h.hN; omega
    have hBl : (E.flatMap cellsE).length ≠ 1 := by have := flat_len3 E; rw [h.len] at this; omega
    have x0 := sx _ _ c0 n0
    have x2 := sx _ _ c2 n2
    have kX : KeepL W X := by rw [← hX]; exact (KeepL.box hN).trans (KeepL.app _ _)
    have hXA : NandAt X N B E (ops + 1) pl pk P false := by
      refine ⟨xN, xB, h.len, fun f hf => ?_, ?_, hA.inj, by have := h.ops0; omega, by omega, h.pl1⟩
      · rcases hA.pgs f hf with y | ⟨y1, y2⟩
        · exact .inl y
        · exact .inr ⟨y1, sx _ _ y2 (fun e => ne_kind hN y2 e.symm)⟩
      · rcases hA.plan with y | ⟨y1, y2⟩
        · exact .inl y
        · exact .inr ⟨y1, sx _ _ y2 (fun e => ne_kind hN y2 e.symm)⟩
    clear hob' hX
    have gN := fun (l : List AObj) => apN xN l
    have gB := fun (l : List AObj) => apN xB l
    have gc0 := fun (l : List AObj) => apN x0 l
    have gc2 := fun (l : List AObj) => apN x2 l
    have y0 : ∀ l : List AObj, (X ++ l)[X.length]? = l[0]? := fun l => by rw [List.getElem?_append_right (Nat.le_refl _)]; simp
    have y1 : ∀ l : List AObj, (X ++ l)[X.length + 1]? = l[1]? := fun l => by rw [List.getElem?_append_right (by omega)]; simp
    have z0 : ∀ (l : List AObj) a, (X ++ l).set X.length a = X ++ l.set 0 a := fun l a => by rw [List.set_append_right _ _ (Nat.le_refl _)]; simp
    have z1 : ∀ (l : List AObj) a, (X ++ l).set (X.length + 1) a = X ++ l.set 1 a := fun l a => by rw [List.set_append_right _ _ (by omega)]; simp
    have lN := lt_ofN xN
    have lB := lt_ofN xB
    have lc := lt_ofN x2
    have q0 : (X.length == X.length + 1) = false := by simp
    have qN : (N == X.length + 1) = false := by simp; omega
    have qB : (B == X.length + 1) = false := by simp; omega
    have qc : (ob.length + 2 == X.length + 1) = false := by simp; omega
    have qd : (ob.length == X.length + 1) = false := by simp; omega
    by_cases m1 : m.kd = 1
    · have dm1 : (m.kd == 1) = true := by simp [m1]
      obtain ⟨t, ht⟩ : ∃ t, spoiltS m s = t := ⟨_, rfl⟩
      have hpt : pageT m s = t := by rw [← ht, pageT]; simp [m1]
      have ap : ∀ (l : List AObj) fb, l[1]? = some .none → appO (X ++ l) fb (some (X.length + 1)) 1 .nils (some [[.str t]]) = some (.osl (X.length + 1) 0 1, X ++ l.set 1 (lS [t])) := fun l fb hl => by
        rw [appO_nilsA (by rw [y1, hl]) (by simp [rowsOk]) (by simp), z1]; rfl
      obtain ⟨e', he'⟩ : ∃ e' : Ent, (⟨.osl (X.length + 1) 0 1, X.length + 1, ⟨[t], e.b.wn, false⟩⟩ : Ent) = e' := ⟨_, rfl⟩
      have sB := fun (o : List AObj) => stE (ob := o) (B := B) (b := b) (j := 0) (e' := e') (v := .osl (X.length + 1) 0 1) he (by omega) (by rw [← he']; simp [cellsE, hbad])
      simp only [Nat.add_zero] at sB
      have u1 : ∀ (l : List AObj) c, ((X ++ l).set B c)[N]? = some (.box [.int .i64 16, .int .i64 8, .bsl B 0 16, .int .i64 (ops + 1), pl, .bool false]) := fun l c => by rw [List.getElem?_set_ne (fun e => nNB e.symm)]; exact gN l
      have u2 : ∀ (l : List AObj) c, ((X ++ l).set B c)[B]? = some c := fun l c => set_get (gB l)
      have u3 : ∀ (l : List AObj) c, ((X ++ l).set B c)[ob.length]? = some (.box [.ref N 0]) := fun l c => by rw [List.getElem?_set_ne (fun e => ne_kb x0 xB e)]; exact gc0 l
      simp only [U29, rowM, gN, gB, gc0, gc2, y0, y1, z0, z1, q0, qN, qB, qc, qd, i1, l0, ap, sB, u1, u2, u3, dm1, seval, bA]
      refine callI (spoilt_spec m s hs hj) ?_
      rw [ht]
      simp only [U29, rowM, gN, gB, gc0, gc2, y0, y1, z0, z1, q0, qN, qB, qc, qd, i1, l0, ap, sB, u1, u2, u3, dm1, List.set_set, seval, bA]
      have fin := hXA.new (b := b) (.box [.int .i64 m.at_, .int .i64 m.kd, .int .i64 m.kp, .str m.jk]) t e' (by rw [← he']) (by rw [← he']) (by rw [← he'])
      obtain ⟨fin1, fin2⟩ := fin
      have fin3 := fin1.turn true
      refine ⟨_, rfl, E.set b e', ?_, (kW.trans (kX.trans fin2)).trans fin3.2, by simp [errV, errT, m1], ?_⟩
      · rw [show decide (m.kd = 1) = true from decide_eq_true m1]; exact fin3.1
      · rw [map_set, ← he', hpt, g1]; simp [m1]
    · have dm1 : (m.kd == 1) = false := by simp [m1]
      by_cases m2 : m.kd = 2
      · have dm2 : (m.kd == 2) = true := by simp [m2]
        obtain ⟨t, ht⟩ : ∃ t, spoiltS m s = t := ⟨_, rfl⟩
        have hpt : pageT m s = t := by rw [← ht, pageT]; simp [m1, m2]
        have ap : ∀ (l : List AObj) fb, l[1]? = some .none → appO (X ++ l) fb (some (X.length + 1)) 1 .nils (some [[.str t]]) = some (.osl (X.length + 1) 0 1, X ++ l.set 1 (lS [t])) := fun l fb hl => by
          rw [appO_nilsA (by rw [y1, hl]) (by simp [rowsOk]) (by simp), z1]; rfl
        obtain ⟨e', he'⟩ : ∃ e' : Ent, (⟨.osl (X.length + 1) 0 1, X.length + 1, ⟨[t], e.b.wn, true⟩⟩ : Ent) = e' := ⟨_, rfl⟩
        obtain ⟨e1, he1⟩ : ∃ e1 : Ent, { e' with b := { e'.b with bad := false } } = e1 := ⟨_, rfl⟩
        have sB := fun (o : List AObj) => stE (ob := o) (B := B) (b := b) (j := 0) (e' := e1) (v := .osl (X.length + 1) 0 1) he (by omega) (by rw [← he1, ← he']; simp [cellsE, hbad])
        have he1b : (E.set b e1)[b]? = some e1 := by rw [List.getElem?_set_self (List.getElem?_eq_some_iff.1 he).1]
        have sB2 := fun (o : List AObj) => stE (ob := o) (B := B) (b := b) (j := 2) (e' := e') (v := .bool true) he1b (by omega) (by rw [← he1, ← he']; simp [cellsE])
        rw [List.set_set] at sB2
        simp only [Nat.add_zero] at sB
        have u1 : ∀ (l : List AObj) c, ((X ++ l).set B c)[N]? = some (.box [.int .i64 16, .int .i64 8, .bsl B 0 16, .int .i64 (ops + 1), pl, .bool false]) := fun l c => by rw [List.getElem?_set_ne (fun e => nNB e.symm)]; exact gN l
        have u2 : ∀ (l : List AObj) c, ((X ++ l).set B c)[B]? = some c := fun l c => set_get (gB l)
        have u3 : ∀ (l : List AObj) c, ((X ++ l).set B c)[ob.length]? = some (.box [.ref N 0]) := fun l c => by rw [List.getElem?_set_ne (fun e => ne_kb x0 xB e)]; exact gc0 l
        simp only [U29, rowM, gN, gB, gc0, gc2, y0, y1, z0, z1, q0, qN, qB, qc, qd, i1, l0, ap, sB, u1, u2, u3, dm1, dm2, sB2, seval, bA]
        refine callI (spoilt_spec m s hs hj) ?_
        rw [ht]
        simp only [U29, rowM, gN, gB, gc0, gc2, y0, y1, z0, z1, q0, qN, qB, qc, qd, i1, l0, ap, sB, u1, u2, u3, dm1, dm2, sB2, List.set_set, seval, bA]
        have fin := hXA.new (b := b) (.box [.int .i64 m.at_, .int .i64 m.kd, .int .i64 m.kp, .str m.jk]) t e' (by rw [← he']) (by rw [← he']) (by rw [← he'])
        refine ⟨_, rfl, E.set b e', ?_, kW.trans (kX.trans fin.2), by simp [errV, errT, m1, m2], ?_⟩
        · simp only [m1, decide_false]; exact fin.1
        · rw [map_set, ← he', hpt, g1]; simp [m1, m2]
      · have dm2 : (m.kd == 2) = false := by simp [m2]
        obtain ⟨t, ht⟩ : ∃ t, s = t := ⟨_, rfl⟩
        rw [ht] at gc2 x2 c2 hs ⊢
        have hpt : pageT m t = t := by rw [pageT]; simp [m1, m2]
        have ap : ∀ (l : List AObj) fb, l[1]? = some .none → appO (X ++ l) fb (some (X.length + 1)) 1 .nils (some [[.str t]]) = some (.osl (X.length + 1) 0 1, X ++ l.set 1 (lS [t])) := fun l fb hl => by
          rw [appO_nilsA (by rw [y1, hl]) (by simp [rowsOk]) (by simp), z1]; rfl
        obtain ⟨e', he'⟩ : ∃ e' : Ent, (⟨.osl (X.length + 1) 0 1, X.length + 1, ⟨[t], e.b.wn, false⟩⟩ : Ent) = e' := ⟨_, rfl⟩
        have sB := fun (o : List AObj) => stE (ob := o) (B := B) (b := b) (j := 0) (e' := e') (v := .osl (X.length + 1) 0 1) he (by omega) (by rw [← he']; simp [cellsE, hbad])
        simp only [Nat.add_zero] at sB
        have u1 : ∀ (l : List AObj) c, ((X ++ l).set B c)[N]? = some (.box [.int .i64 16, .int .i64 8, .bsl B 0 16, .int .i64 (ops + 1), pl, .bool false]) := fun l c => by rw [List.getElem?_set_ne (fun e => nNB e.symm)]; exact gN l
        have u2 : ∀ (l : List AObj) c, ((X ++ l).set B c)[B]? = some c := fun l c => set_get (gB l)
        have u3 : ∀ (l : List AObj) c, ((X ++ l).set B c)[ob.length]? = some (.box [.ref N 0]) := fun l c => by rw [List.getElem?_set_ne (fun e => ne_kb x0 xB e)]; exact gc0 l
        simp only [U29, rowM, gN, gB, gc0, gc2, y0, y1, z0, z1, q0, qN, qB, qc, qd, i1, l0, ap, sB, u1, u2, u3, dm1, dm2, List.set_set, seval, bA]
        have fin := hXA.new (b := b) (.box [.int .i64 m.at_, .int .i64 m.kd, .int .i64 m.kp, .str m.jk]) t e' (by rw [← he']) (by rw [← he']) (by rw [← he'])
        refine ⟨_, rfl, E.set b e', ?_, kW.trans (kX.trans fin.2), by simp [errV, errT, m1, m2], ?_⟩
        · simp only [m1, decide_false]; exact fin.1
        · rw [map_set, ← he', hpt, g1]; simp [m1, m2]
  · rw [g1] at l0
    have dn : ((k : Int) != (e.b.pg.length : Int)) = false := by simp [hlen]
    have hr : rowsO (some (lS e.b.pg)) 0 e.b.pg.length = some (rowsS e.b.pg) := rowsO_all (by simp)
    simp only [U29, c0, c1, hN, hB, d1, d2, i1, l0, g2, hr, l2, dn, seval, bA]
    refine callM (count_i hA) ?_
    rintro r ob' ⟨rfl, ex, hob'⟩
    rw [hob']
    obtain ⟨m, hm⟩ : ∃ m, cM P (ops + 1) = m := ⟨_, rfl⟩
    rw [hm] at hj ⊢
    obtain ⟨X, hX⟩ : ∃ X, W.set N (boxN B (ops + 1) pl false) ++ ex = X := ⟨_, rfl⟩
    rw [hX]
    have nNB := ne_NB hA
    have sx : ∀ i a, W[i]? = some a → i ≠ N → X[i]? = some a := fun i a h1 h2 => by rw [← hX]; exact apN (by rw [List.getElem?_set_ne (fun e => h2 e.symm)]; exact h1) ex
    have xN : X[N]? = some (.box [.int .i64 16, .int .i64 8, .bsl B 0 16, .int .i64 (ops + 1), pl, .bool false]) := by rw [← hX]; exact apN (set_get hN) ex
    have xB := sx B _ hB (fun e => nNB e.symm)
    have n0 : ob.length ≠ N := by have := lt_ofN h.hN; omega
    have n2 : ob.length + 2 ≠ N := by have := lt_ofN h.hN; omega
    have hBl : (E.flatMap cellsE).length ≠ 1 := by have := flat_len3 E; rw [h.len] at this; omega
    have x0 := sx _ _ c0 n0
    have x2 := sx _ _ c2 n2
    have kX : KeepL W X := by rw [← hX]; exact (KeepL.box hN).trans (KeepL.app _ _)
    have hXA : NandAt X N B E (ops + 1) pl pk P false := by
      refine ⟨xN, xB, h.len, fun f hf => ?_, ?_, hA.inj, by have := h.ops0; omega, by omega, h.pl1⟩
      · rcases hA.pgs f hf with y | ⟨y1, y2⟩
        · exact .inl y
        · exact .inr ⟨y1, sx _ _ y2 (fun e => ne_kind hN y2 e.symm)⟩
      · rcases hA.plan with y | ⟨y1, y2⟩
        · exact .inl y
        · exact .inr ⟨y1, sx _ _ y2 (fun e => ne_kind hN y2 e.symm)⟩
    clear hob' hX
    have xk := sx _ _ g2 (fun e => ne_kind hN g2 e.symm)
    have gN := fun (l : List AObj) => apN xN l
    have gB := fun (l : List AObj) => apN xB l
    have gc0 := fun (l : List AObj) => apN x0 l
    have gc2 := fun (l : List AObj) => apN x2 l
    have gk := fun (l : List AObj) => apN xk l
    have y0 : ∀ l : List AObj, (X ++ l)[X.length]? = l[0]? := fun l => by rw [List.getElem?_append_right (Nat.le_refl _)]; simp
    have y1 : ∀ l : List AObj, (X ++ l)[X.length + 1]? = l[1]? := fun l => by rw [List.getElem?_append_right (by omega)]; simp
    have z0 : ∀ (l : List AObj) a, (X ++ l).set X.length a = X ++ l.set 0 a := fun l a => by rw [List.set_append_right _ _ (Nat.le_refl _)]; simp
    have z1 : ∀ (l : List AObj) a, (X ++ l).set (X.length + 1) a = X ++ l.set 1 a := fun l a => by rw [List.set_append_right _ _ (by omega)]; simp
    have lN := lt_ofN xN
    have lB := lt_ofN xB
    have lc := lt_ofN x2
    have q0 : (X.length == X.length + 1) = false := by simp
    have qN : (N == X.length + 1) = false := by simp; omega
    have qB : (B == X.length + 1) = false := by simp; omega
    have qc : (ob.length + 2 == X.length + 1) = false := by simp; omega
    have qd : (ob.length == X.length + 1) = false := by simp; omega
    have qk : (e.k == X.length + 1) = false := by have := lt_ofN xk; simp; omega
    by_cases m1 : m.kd = 1
    · have dm1 : (m.kd == 1) = true := by simp [m1]
      obtain ⟨t, ht⟩ : ∃ t, spoiltS m s = t := ⟨_, rfl⟩
      have hpt : pageT m s = t := by rw [← ht, pageT]; simp [m1]
      have ap : ∀ (l : List AObj) fb nw, fb.contains e.k = false → appO (X ++ l) fb nw 1 (.osl e.k 0 e.b.pg.length) (some [[.str t]]) = some (.osl e.k 0 (e.b.pg.length + 1), (X ++ l).set e.k (lS (e.b.pg ++ [t]))) := fun l fb nw hf => by
        rw [appO_osl hf (gk l) (by simp) (by simp; omega) (by simp [rowsOk]) (by simp)]; simp [lS, rowsS]
      have xe : ∀ (l : List AObj) a, ((X ++ l).set e.k a)[e.k]? = some a := fun l a => set_get (gk l)
      have ykB : e.k ≠ B := fun e => ne_kind xB xk e.symm
      have ykN : e.k ≠ N := fun e => ne_kind xN xk e.symm
      have xeB : ∀ (l : List AObj) a, ((X ++ l).set e.k a)[B]? = some (.box (E.flatMap cellsE)) := fun l a => by rw [List.getElem?_set_ne ykB]; exact gB l
      have xeN : ∀ (l : List AObj) a, ((X ++ l).set e.k a)[N]? = some (.box [.int .i64 16, .int .i64 8, .bsl B 0 16, .int .i64 (ops + 1), pl, .bool false]) := fun l a => by rw [List.getElem?_set_ne ykN]; exact gN l
      have xec : ∀ (l : List AObj) a, ((X ++ l).set e.k a)[ob.length]? = some (.box [.ref N 0]) := fun l a => by rw [List.getElem?_set_ne (fun e => ne_kind x0 xk e.symm)]; exact gc0 l
      obtain ⟨e', he'⟩ : ∃ e' : Ent, (⟨.osl e.k 0 (e.b.pg.length + 1), e.k, ⟨e.b.pg ++ [t], e.b.wn, false⟩⟩ : Ent) = e' := ⟨_, rfl⟩
      have sB := fun (o : List AObj) => stE (ob := o) (B := B) (b := b) (j := 0) (e' := e') (v := .osl e.k 0 (e.b.pg.length + 1)) he (by omega) (by rw [← he']; simp [cellsE, hbad])
      simp only [Nat.add_zero] at sB
      have u1 : ∀ (l : List AObj) a c, (((X ++ l).set e.k a).set B c)[N]? = some (.box [.int .i64 16, .int .i64 8, .bsl B 0 16, .int .i64 (ops + 1), pl, .bool false]) := fun l a c => by rw [List.getElem?_set_ne (fun e => nNB e.symm)]; exact xeN l a
      have u2 : ∀ (l : List AObj) a c, (((X ++ l).set e.k a).set B c)[B]? = some c := fun l a c => set_get (xeB l a)
      have u3 : ∀ (l : List AObj) a c, (((X ++ l).set e.k a).set B c)[ob.length]? = some (.box [.ref N 0]) := fun l a c => by rw [List.getElem?_set_ne (fun e => ne_kb x0 xB e)]; exact xec l a
      simp only [U29, rowM, gN, gB, gc0, gc2, y0, y1, z0, z1, q0, qN, qB, qc, qd, i1, l0, gk, qk, ap, sB, u1, u2, u3, dm1, xe, xeB, xeN, xec, seval, bA]
      refine callI (spoilt_spec m s hs hj) ?_
      rw [ht]
      simp only [U29, rowM, gN, gB, gc0, gc2, y0, y1, z0, z1, q0, qN, qB, qc, qd, i1, l0, gk, qk, ap, sB, u1, u2, u3, dm1, xe, xeB, xeN, xec, List.set_set, seval, bA]
      have fin := hXA.more he [AObj.box [.int .i64 m.at_, .int .i64 m.kd, .int .i64 m.kp, .str m.jk], AObj.none] t e' g1 xk (by rw [← he']) (by rw [← he']) (by rw [← he'])
      obtain ⟨fin1, fin2⟩ := fin
      have fin3 := fin1.turn true
      refine ⟨_, rfl, E.set b e', ?_, (kW.trans (kX.trans fin2)).trans fin3.2, by simp [errV, errT, m1], ?_⟩
      · rw [show decide (m.kd = 1) = true from decide_eq_true m1]; exact fin3.1
      · rw [map_set, ← he', hpt]; simp [m1]
    · have dm1 : (m.kd == 1) = false := by simp [m1]
      by_cases m2 : m.kd = 2
      · have dm2 : (m.kd == 2) = true := by simp [m2]
        obtain ⟨t, ht⟩ : ∃ t, spoiltS m s = t := ⟨_, rfl⟩
        have hpt : pageT m s = t := by rw [← ht, pageT]; simp [m1, m2]
        have ap : ∀ (l : List AObj) fb nw, fb.contains e.k = false → appO (X ++ l) fb nw 1 (.osl e.k 0 e.b.pg.length) (some [[.str t]]) = some (.osl e.k 0 (e.b.pg.length + 1), (X ++ l).set e.k (lS (e.b.pg ++ [t]))) := fun l fb nw hf => by
          rw [appO_osl hf (gk l) (by simp) (by simp; omega) (by simp [rowsOk]) (by simp)]; simp [lS, rowsS]
        have xe : ∀ (l : List AObj) a, ((X ++ l).set e.k a)[e.k]? = some a := fun l a => set_get (gk l)
        have ykB : e.k ≠ B := fun e => ne_kind xB xk e.symm
        have ykN : e.k ≠ N := fun e => ne_kind xN xk e.symm
        have xeB : ∀ (l : List AObj) a, ((X ++ l).set e.k a)[B]? = some (.box (E.flatMap cellsE)) := fun l a => by rw [List.getElem?_set_ne ykB]; exact gB l
        have xeN : ∀ (l : List AObj) a, ((X ++ l).set e.k a)[N]? = some (.box [.int .i64 16, .int .i64 8, .bsl B 0 16, .int .i64 (ops + 1), pl, .bool false]) := fun l a => by rw [List.getElem?_set_ne ykN]; exact gN l
        have xec : ∀ (l : List AObj) a, ((X ++ l).set e.k a)[ob.length]? = some (.box [.ref N 0]) := fun l a => by rw [List.getElem?_set_ne (fun e => ne_kind x0 xk e.symm)]; exact gc0 l
        obtain ⟨e', he'⟩ : ∃ e' : Ent, (⟨.osl e.k 0 (e.b.pg.length + 1), e.k, ⟨e.b.pg ++ [t], e.b.wn, true⟩⟩ : Ent) = e' := ⟨_, rfl⟩
        obtain ⟨e1, he1⟩ : ∃ e1 : Ent, { e' with b := { e'.b with bad := false } } = e1 := ⟨_, rfl⟩
        have sB := fun (o : List AObj) => stE (ob := o) (B := B) (b := b) (j := 0) (e' := e1) (v := .osl e.k 0 (e.b.pg.length + 1)) he (by omega) (by rw [← he1, ← he']; simp [cellsE, hbad])
        have he1b : (E.set b e1)[b]? = some e1 := by rw [List.getElem?_set_self (List.getElem?_eq_some_iff.1 he).1]
        have sB2 := fun (o : List AObj) => stE (ob := o) (B := B) (b := b) (j := 2) (e' := e') (v := .bool true) he1b (by omega) (by rw [← he1, ← he']; simp [cellsE])
        rw [List.set_set] at sB2
        simp only [Nat.add_zero] at sB
        have u1 : ∀ (l : List AObj) a c, (((X ++ l).set e.k a).set B c)[N]? = some (.box [.int .i64 16, .int .i64 8, .bsl B 0 16, .int .i64 (ops + 1), pl, .bool false]) := fun l a c => by rw [List.getElem?_set_ne (fun e => nNB e.symm)]; exact xeN l a
        have u2 : ∀ (l : List AObj) a c, (((X ++ l).set e.k a).set B c)[B]? = some c := fun l a c => set_get (xeB l a)
        have u3 : ∀ (l : List AObj) a c, (((X ++ l).set e.k a).set B c)[ob.length]? = some (.box [.ref N 0]) := fun l a c => by rw [List.getElem?_set_ne (fun e => ne_kb x0 xB e)]; exact xec l a
        simp only [U29, rowM, gN, gB, gc0, gc2, y0, y1, z0, z1, q0, qN, qB, qc, qd, i1, l0, gk, qk, ap, sB, u1, u2, u3, dm1, dm2, sB2, xe, xeB, xeN, xec, seval, bA]
        refine callI (spoilt_spec m s hs hj) ?_
        rw [ht]
        simp only [U29, rowM, gN, gB, gc0, gc2, y0, y1, z0, z1, q0, qN, qB, qc, qd, i1, l0, gk, qk, ap, sB, u1, u2, u3, dm1, dm2, sB2, xe, xeB, xeN, xec, List.set_set, seval, bA]
        have fin := hXA.more he [AObj.box [.int .i64 m.at_, .int .i64 m.kd, .int .i64 m.kp, .str m.jk], AObj.none] t e' g1 xk (by rw [← he']) (by rw [← he']) (by rw [← he'])
        refine ⟨_, rfl, E.set b e', ?_, kW.trans (kX.trans fin.2), by simp [errV, errT, m1, m2], ?_⟩
        · simp only [m1, decide_false]; exact fin.1
        · rw [map_set, ← he', hpt]; simp [m1, m2]
      · have dm2 : (m.kd == 2) = false := by simp [m2]
        obtain ⟨t, ht⟩ : ∃ t, s = t := ⟨_, rfl⟩
        rw [ht] at gc2 x2 c2 hs ⊢
        have hpt : pageT m t = t := by rw [pageT]; simp [m1, m2]
        have ap : ∀ (l : List AObj) fb nw, fb.contains e.k = false → appO (X ++ l) fb nw 1 (.osl e.k 0 e.b.pg.length) (some [[.str t]]) = some (.osl e.k 0 (e.b.pg.length + 1), (X ++ l).set e.k (lS (e.b.pg ++ [t]))) := fun l fb nw hf => by
          rw [appO_osl hf (gk l) (by simp) (by simp; omega) (by simp [rowsOk]) (by simp)]; simp [lS, rowsS]
        have xe : ∀ (l : List AObj) a, ((X ++ l).set e.k a)[e.k]? = some a := fun l a => set_get (gk l)
        have ykB : e.k ≠ B := fun e => ne_kind xB xk e.symm
        have ykN : e.k ≠ N := fun e => ne_kind xN xk e.symm
        have xeB : ∀ (l : List AObj) a, ((X ++ l).set e.k a)[B]? = some (.box (E.flatMap cellsE)) := fun l a => by rw [List.getElem?_set_ne ykB]; exact gB l
        have xeN : ∀ (l : List AObj) a, ((X ++ l).set e.k a)[N]? = some (.box [.int .i64 16, .int .i64 8, .bsl B 0 16, .int .i64 (ops + 1), pl, .bool false]) := fun l a => by rw [List.getElem?_set_ne ykN]; exact gN l
        have xec : ∀ (l : List AObj) a, ((X ++ l).set e.k a)[ob.length]? = some (.box [.ref N 0]) := fun l a => by rw [List.getElem?_set_ne (fun e => ne_kind x0 xk e.symm)]; exact gc0 l
        obtain ⟨e', he'⟩ : ∃ e' : Ent, (⟨.osl e.k 0 (e.b.pg.length + 1), e.k, ⟨e.b.pg ++ [t], e.b.wn, false⟩⟩ : Ent) = e' := ⟨_, rfl⟩
        have sB := fun (o : List AObj) => stE (ob := o) (B := B) (b := b) (j := 0) (e' := e') (v := .osl e.k 0 (e.b.pg.length + 1)) he (by omega) (by rw [← he']; simp [cellsE, hbad])
        simp only [Nat.add_zero] at sB
        have u1 : ∀ (l : List AObj) a c, (((X ++ l).set e.k a).set B c)[N]? = some (.box [.int .i64 16, .int .i64 8, .bsl B 0 16, .int .i64 (ops + 1), pl, .bool false]) := fun l a c => by rw [List.getElem?_set_ne (fun e => nNB e.symm)]; exact xeN l a
        have u2 : ∀ (l : List AObj) a c, (((X ++ l).set e.k a).set B c)[B]? = some c := fun l a c => set_get (xeB l a)
        have u3 : ∀ (l : List AObj) a c, (((X ++ l).set e.k a).set B c)[ob.length]? = some (.box [.ref N 0]) := fun l a c => by rw [List.getElem?_set_ne (fun e => ne_kb x0 xB e)]; exact xec l a
        simp only [U29, rowM, gN, gB, gc0, gc2, y0, y1, z0, z1, q0, qN, qB, qc, qd, i1, l0, gk, qk, ap, sB, u1, u2, u3, dm1, dm2, xe, xeB, xeN, xec, List.set_set, seval, bA]
        have fin := hXA.more he [AObj.box [.int .i64 m.at_, .int .i64 m.kd, .int .i64 m.kp, .str m.jk], AObj.none] t e' g1 xk (by rw [← he']) (by rw [← he']) (by rw [← he'])
        refine ⟨_, rfl, E.set b e', ?_, kW.trans (kX.trans fin.2), by simp [errV, errT, m1, m2], ?_⟩
        · simp only [m1, decide_false]; exact fin.1
        · rw [map_set, ← he', hpt]; simp [m1, m2]

end Go.Proofs.YtdgpiobmncohjaaGreat.Aw
namespace Go.Proofs.YtdgpiobmncohjaaGreat.Aw
open Go.RowKit

variable {ob : List AObj} {N B : Nat} {E : List Ent} {ops : Int} {pl : PV} {pk : Nat} {P : List Mis} {down : Bool}

theorem read_i {b k : Nat} {e : Ent} (h : NandAt ob N B E ops pl pk P false) (he : E[b]? = some e) (hk : k < 8) {pg : Int} (hpg : pg = ((8 * b + k : Nat) : Int)) :
    ICall Tryz.prog 45 [.ref N 0, .int .i64 pg] ob fun r ob' => (∃ ex, ob' = ob ++ ex) ∧ r = .tup [.str (e.b.pg.getD k []), errV (if k < e.b.pg.length then 0 else 42)] := by
  subst hpg
  refine icall_dr Tryz.func45 cm31 ?_
  have hb : b < 16 := by have := (List.getElem?_eq_some_iff.1 he).1; rw [h.len] at this; exact this
  obtain ⟨W, hW⟩ : ∃ W, ob ++ [AObj.box [.ref N 0], AObj.box [.int .i64 ((8 * b + k : Nat) : Int)]] = W := ⟨_, rfl⟩
  have hA : NandAt W N B E ops pl pk P false := by rw [← hW]; exact h.app _
  have c0 : W[ob.length]? = some (.box [.ref N 0]) := by rw [← hW, List.getElem?_append_right (Nat.le_refl _)]; simp
  have c1 : W[ob.length + 1]? = some (.box [.int .i64 ((8 * b + k : Nat) : Int)]) := by rw [← hW, List.getElem?_append_right (by omega)]; simp
  simp only [U31, hW, c0, seval, bA]
  refine callM (ready_i hA (readc_i hA c0 c1 (by omega))) ?_
  rintro r ob' ⟨rfl, e9⟩
  rw [e9]
  clear e9 ob'
  have hN := hA.hN
  have hB := hA.hB
  have d1 : IntKind.i64.wrap (((8 * b + k : Nat) : Int).tdiv 8) = (b : Int) := by
    have : ((8 * b + k : Nat) : Int).tdiv 8 = (b : Int) := by rw [Int.tdiv_eq_ediv_of_nonneg (by omega)]; omega
    rw [this, wrapI (by omega) (by omega)]
  have d2 : ((8 * b + k : Nat) : Int).tmod 8 = (k : Int) := by rw [Int.tmod_eq_emod_of_nonneg (by omega)]; omega
  have i1 : ∀ o : List AObj, islV o [] 3 (.bsl B 0 16) (.int .i64 (b : Int)) = some (.ref B (3 * b)) := fun o => by
    rw [islV_bsl (by simp; omega)]; simp; omega
  have l0 := ldE (j := 0) (v := e.pv) he rfl
  simp only [Nat.add_zero] at l0
  rcases hA.pgs e (List.mem_of_getElem? he) with ⟨g1, g2⟩ | ⟨g1, g2⟩
  · rw [g2] at l0
    have d : decide ((0 : Int) ≤ (k : Int)) = true := by simp
    simp only [U31, c0, c1, hN, hB, d1, d2, i1, l0, d, seval, bA]
    refine ⟨_, rfl, ⟨_, hW.symm⟩, ?_⟩
    rw [g1]; simp [errV]
  · rw [g1] at l0
    have hr : rowsO (some (lS e.b.pg)) 0 e.b.pg.length = some (rowsS e.b.pg) := rowsO_all (by simp)
    by_cases hlt : k < e.b.pg.length
    · have d : decide ((e.b.pg.length : Int) ≤ (k : Int)) = false := by simp; omega
      have i2 := islO_map (g := fun s : List UInt8 => [PV.str s]) (l := e.b.pg) (e := 1) (o := e.k) (m := e.b.pg.length) (k := .i64) rfl hlt
      have i3 := ldL_map (g := fun s : List UInt8 => [PV.str s]) (l := e.b.pg) (e := 1) (len := e.b.pg.length) (off := 0) (n := 1) rfl hlt (by simp)
      simp only [U31, c0, c1, hN, hB, d1, d2, i1, l0, g2, hr, d, i2, i3, seval, bA]
      refine ⟨_, rfl, ⟨_, hW.symm⟩, ?_⟩
      simp [errV, hlt, List.getD_eq_getElem?_getD]
    · have d : decide ((e.b.pg.length : Int) ≤ (k : Int)) = true := by simp; omega
      simp only [U31, c0, c1, hN, hB, d1, d2, i1, l0, g2, hr, d, seval, bA]
      refine ⟨_, rfl, ⟨_, hW.symm⟩, ?_⟩
      simp [errV, hlt, List.getD_eq_getElem?_getD, List.getElem?_eq_none (Nat.le_of_not_lt hlt)]
theorem known_bsl {o i n} : PV.known (.bsl o i n) = true := rfl
theorem cellsOf_bsl {o i n} : PV.cellsOf (.bsl o i n) = [.bsl o i n] := rfl
theorem cell_bsl {o i n} : PV.cell? (.bsl o i n) = true := rfl
def bls0 : List Ent := List.replicate 16 ⟨.nils, 0, zeroK⟩
theorem new_i (ob : List AObj) : ICall Tryz.prog 18 [.agg [.int .i64 16, .int .i64 8]] ob fun r ob' => (∃ N B, r = .tup [.ref N 0, .nili] ∧ NandAt ob' N B bls0 0 .nils 0 [] false) ∧ KeepL ob ob' := by
  refine icall_dr Tryz.func18 cm34 ?_
  have g0 : ∀ l : List AObj, (ob ++ l)[ob.length]? = l[0]? := fun l => by rw [List.getElem?_append_right (Nat.le_refl _)]; simp
  have g1 : ∀ l : List AObj, (ob ++ l)[ob.length + 1]? = l[1]? := fun l => by rw [List.getElem?_append_right (by omega)]; simp
  have g2 : ∀ l : List AObj, (ob ++ l)[ob.length + 2]? = l[2]? := fun l => by rw [List.getElem?_append_right (by omega)]; simp
  have z1 : ∀ (l : List AObj) a, (ob ++ l).set (ob.length + 1) a = ob ++ l.set 1 a := fun l a => by rw [List.set_append_right _ _ (by omega)]; simp
  have z2 : ∀ (l : List AObj) a, (ob ++ l).set (ob.length + 2) a = ob ++ l.set 2 a := fun l a => by rw [List.set_append_right _ _ (by omega)]; simp
  have n1 : (ob.length == ob.length + 1) = false := by simp
  have n2 : (ob.length == ob.length + 1 + 1) = false := by simp; omega
  have hz : ∀ ks, mksO [.nils, .int .i64 0, .bool false] (.int .i64 16) (.int .i64 16) ks = ks 16 := fun ks => by rw [mksO_int (by omega) (by omega) (by simp [PV.scal]) (by simp [ownL, PV.own?])]; rfl
  have hin : (decide ((16 : Int) ≤ 16) && decide ((16 : Int) ≤ 64)) = true := by decide
  have hin2 : (decide ((8 : Int) ≤ 8) && decide ((8 : Int) ≤ 32)) = true := by decide
  simp only [U34, g0, g1, seval, bA]
  refine callI (nin_spec 16 16 64) ?_
  rw [hin]
  simp only [U34, g0, g1, seval, bA]
  refine callI (nin_spec 8 8 32) ?_
  rw [hin2]
  simp only [U34, g0, g1, g2, z1, z2, n1, n2, hz, known_bsl, cellsOf_bsl, cell_bsl, seval, bA]
  refine ⟨_, rfl, ⟨_, ob.length + 1, rfl, ⟨g2 _, g1 _, rfl, fun e he => ?_, .inl ⟨rfl, rfl⟩, fun i j a b ha _ na _ _ => ?_, by omega, by omega, by simp⟩⟩, KeepL.app _ _⟩
  · rw [List.eq_of_mem_replicate he]; exact .inl ⟨rfl, rfl⟩
  · rw [List.eq_of_mem_replicate (List.mem_of_getElem? ha)] at na; exact absurd rfl na

end Go.Proofs.YtdgpiobmncohjaaGreat.Aw
namespace Go.Proofs.YtdgpiobmncohjaaGreat.Aw
open Go.RowKit

variable {ob : List AObj} {N B : Nat} {E : List Ent} {ops : Int} {pl : PV} {pk : Nat} {P : List Mis} {down : Bool}

/-- An array, as a caller has it. -/
def NandS (ob : List AObj) (N : Nat) (bl : List Bk) (ops : Int) (P : List Mis) (down : Bool) : Prop := ∃ B E pl pk, NandAt ob N B E ops pl pk P down ∧ E.map (·.b) = bl
theorem NandS.app {bl : List Bk} (h : NandS ob N bl ops P down) (l : List AObj) : NandS (ob ++ l) N bl ops P down := by
  obtain ⟨B, E, pl, pk, h1, h2⟩ := h
  exact ⟨B, E, pl, pk, h1.app l, h2⟩
theorem get_map {E : List Ent} {bl : List Bk} (h : E.map (·.b) = bl) {b : Nat} {k : Bk} (hb : bl[b]? = some k) : ∃ e, E[b]? = some e ∧ e.b = k := by
  rw [← h, List.getElem?_map] at hb
  obtain ⟨e, h1, h2⟩ := Option.map_eq_some_iff.1 hb
  exact ⟨e, h1, h2⟩
theorem Program_i {bl : List Bk} {b k : Nat} {bk : Bk} {s : List UInt8} (h : NandS ob N bl ops P false) (hops : ops < 1000000) (he : bl[b]? = some bk) (hk : k < 8) (hbad : bk.bad = false) (hlen : bk.pg.length = k) (hs : s.length ≤ 128) (hj : (cM P (ops + 1)).jk.length ≤ 1000) {pg : Int} (hpg : pg = ((8 * b + k : Nat) : Int)) :
    ICall Tryz.prog 21 [.ref N 0, .int .i64 pg, .str s] ob fun r ob' => NandS ob' N (bl.set b ⟨bk.pg ++ [pageT (cM P (ops + 1)) s], bk.wn, decide ((cM P (ops + 1)).kd = 2)⟩) (ops + 1) P (decide ((cM P (ops + 1)).kd = 1)) ∧ KeepL ob ob' ∧ WrapAt ob' (errT (cM P (ops + 1))) r := by
  obtain ⟨B, E, pl, pk, h1, h2⟩ := h
  obtain ⟨e, h3, rfl⟩ := get_map h2 he
  refine icall_dr Tryz.func21 cm24 ?_
  simp only [U24, seval, bA]
  refine callM (prog_i h1 hops h3 hk hbad hlen hs hj hpg) ?_
  rintro r ob' ⟨E', hE, hK, rfl, hM⟩
  simp only [U24, seval, bA]
  refine callM (wrap_i ob' _ _ _) ?_
  rintro r ob2 ⟨⟨ex, rfl⟩, hw⟩
  simp only [U24, seval, bA]
  exact ⟨_, rfl, ⟨B, E', pl, pk, hE.app ex, by rw [hM, h2]⟩, hK.trans (KeepL.app _ _), hw⟩
theorem Read_i {bl : List Bk} {b k : Nat} {bk : Bk} (h : NandS ob N bl ops P false) (he : bl[b]? = some bk) (hk : k < 8) {pg : Int} (hpg : pg = ((8 * b + k : Nat) : Int)) :
    ICall Tryz.prog 22 [.ref N 0, .int .i64 pg] ob fun r ob' => ∃ r2, r = .tup [.str (bk.pg.getD k []), r2] ∧ NandS ob' N bl ops P false ∧ KeepL ob ob' ∧ WrapAt ob' (if k < bk.pg.length then 0 else 42) r2 := by
  have hS := h
  obtain ⟨B, E, pl, pk, h1, h2⟩ := h
  obtain ⟨e, h3, rfl⟩ := get_map h2 he
  refine icall_dr Tryz.func22 cm25 ?_
  simp only [U25, seval, bA]
  refine callM (read_i h1 h3 hk hpg) ?_
  rintro r ob' ⟨⟨ex, rfl⟩, rfl⟩
  simp only [U25, seval, bA]
  refine callM (wrap_i _ _ _ _) ?_
  rintro r ob2 ⟨⟨ex2, rfl⟩, hw⟩
  simp only [U25, seval, bA]
  rw [List.append_assoc] at hw
  exact ⟨_, rfl, _, rfl, hS.app _, KeepL.app _ _, hw⟩
def blK : List Bk := List.replicate 16 zeroK
theorem New_i (ob : List AObj) : ICall Tryz.prog 18 [.agg [.int .i64 16, .int .i64 8]] ob fun r ob' => ∃ N, r = .tup [.ref N 0, .nili] ∧ NandS ob' N blK 0 [] false ∧ KeepL ob ob' := by
  refine callM (new_i ob) ?_
  rintro r ob' ⟨⟨N, B, rfl, h⟩, hK⟩
  exact ⟨N, rfl, ⟨B, _, _, _, h, by simp [bls0, blK]⟩, hK⟩

end Go.Proofs.YtdgpiobmncohjaaGreat.Aw
namespace Go.Proofs.YtdgpiobmncohjaaGreat.Aw
open Go.RowKit

theorem writeS_yes {p : Pg} (h : mayB p = true) : writeS p = (sealS (bodyS p), 0) := by rw [writeS, if_pos h]
theorem bl0 : blK[0]? = some zeroK := by rfl
theorem cM_nil (k : Int) : cM [] k = zeroM := rfl
theorem pageT_0 (s : List UInt8) : pageT zeroM s = s := by simp [pageT, zeroM]
theorem WrapAt.zero {ob : List AObj} {r : PV} (h : WrapAt ob 0 r) : r = .nili := by
  rcases h with ⟨_, h⟩ | ⟨h, _⟩
  · exact h
  · exact absurd rfl h
theorem fine_spec : PCall Tryz.prog 6 [] (.bool true) := by
  refine pcall_dr Tryz.func6 cm63 ?_
  obtain ⟨p, hp⟩ : ∃ p : Pg, (⟨1, 0, 3, 0, [97]⟩ : Pg) = p := ⟨_, rfl⟩
  have hpP : PV.agg [.int .i64 1, .int .i64 0, .int .i64 3, .int .i64 0, .str [97]] = pP p := by rw [← hp]; rfl
  have hm : mayB p = true := by rw [← hp]; decide
  have hw := writeS_yes hm
  have hr := read_write p hm
  have hl := write_len p
  rw [hw] at hl
  simp only at hl
  obtain ⟨S, hS⟩ : ∃ S, sealS (bodyS p) = S := ⟨_, rfl⟩
  rw [hS] at hw hr hl
  simp only [U63, seval, bA]
  refine callI plain_spec ?_
  simp only [U63, seval, bA]
  refine callM (New_i []) ?_
  rintro r o1 ⟨N, rfl, h1, _⟩
  simp only [U63, seval, bA]
  rw [hpP]
  refine callI (write_spec p (by rw [← hp]; decide)) ?_
  rw [hw]
  simp only [U63, seval, bA]
  refine callM (Program_i (b := 0) (k := 0) h1 (by omega) bl0 (by omega) rfl rfl (by omega) (by rw [cM_nil]; simp [zeroM]) rfl) ?_
  rintro r o2 ⟨h2, _, hw2⟩
  rw [cM_nil] at h2 hw2
  have := hw2.zero; subst this
  rw [pageT_0] at h2
  simp only [zeroM, zeroK, decide_false, List.nil_append, show ((0 : Int) = 2) = False by simp, show ((0 : Int) = 1) = False by simp] at h2
  simp only [U63, seval, bA]
  refine callM (Read_i (b := 0) (k := 0) h2 (bk := ⟨[S], 0, false⟩) (by rfl) (by omega) rfl) ?_
  rintro r o3 ⟨r2, rfl, h3, _, hw3⟩
  have hw3' : WrapAt o3 0 r2 := by simpa using hw3
  have := hw3'.zero; subst this
  simp only [U63, seval, bA]
  refine callI (read_spec S (by omega)) ?_
  rw [hr, ← hp]
  have g0 : ∀ l : List AObj, (o3 ++ l)[o3.length]? = l[0]? := fun l => by rw [List.getElem?_append_right (Nat.le_refl _)]; simp
  have z0 : ∀ (l : List AObj) a, (o3 ++ l).set o3.length a = o3 ++ l.set 0 a := fun l a => by rw [List.set_append_right _ _ (Nat.le_refl _)]; simp
  simp only [U63, rowP, g0, z0, beq_self_eq_true, seval, bA]

end Go.Proofs.YtdgpiobmncohjaaGreat.Aw
