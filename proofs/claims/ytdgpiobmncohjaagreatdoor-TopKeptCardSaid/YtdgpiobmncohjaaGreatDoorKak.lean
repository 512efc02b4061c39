/-
 How a walk is simplified: rules of rewriting, whole functions, and small laws of numbers.; From the contract of a law ('it returns true') to the row.
-/
import Derived.Test.YtdgpiobmncohjaaGreatDoorKaj
import Derived.ProofKit
set_option linter.all false
namespace Go.Proofs.YtdgpiobmncohjaaGreatDoor.Aw
open Go.RowKit
def compF (P : Program) (own : List Nat) (dr : Array Oper → Option AC) (hints : List (List Nat × Nat)) (nargs : Nat) (fn : Func) : Option (AC × List ARV) :=
 if (fn.name == "runtime.NumGoroutine") = false ∧ nargs ≤ fn.ntmps then
  match fn.body with
  | some code =>
   match compC P own fn.ntmps dr code hints with
   | some (ac, _) => (fn.results.toList.mapM (compRes P)).map fun rs => (ac, rs)
   | none => none
  | none => none
 else none
theorem pcall_of' {P : Program} {f : Nat} {fn : Func} {own : List Nat} {dr : Array Oper → Option AC} {hints : List (List Nat × Nat)} {ac : AC} {rs : List ARV} {args : List PV} {r : PV}
  (hf : P.funcs[f]? = some fn) (hc : compF P own dr hints args.length fn = some (ac, rs)) (hdr : ∀ (c : Ctx) (g : Start), c.n = fn.ntmps → DrSound P own c g dr) (h : AWP P 0 ac (AFin rs r) (init args)) : PCall P f args r := by
 unfold compF at hc
 split at hc
 ·rename_i hn
  split at hc
  ·rename_i code hcode
   split at hc
   ·rename_i ac' rest hac
    simp only [Option.map_eq_some_iff, Prod.mk.injEq] at hc
    obtain ⟨rs', h1, rfl, rfl⟩ := hc
    exact pcall_of hf hcode hn.1 hac h1 hn.2 hdr h
   ·cases hc
  ·cases hc
 ·cases hc
theorem nr {α : Sort _} {a b : α} (h : a = b) : a = b := Eq.trans h rfl
theorem kseq_n {k : St → Prop} {Q s} : kseq k Q .n s = k s := nr rfl
theorem kseq_x {k : St → Prop} {Q s i} : kseq k Q (.x i) s = Q (.x i) s := nr rfl
theorem kseq_r {k : St → Prop} {Q s} : kseq k Q .r s = Q .r s := nr rfl
theorem kblk_n {id Q s} : kblk id Q .n s = Q .n s := nr rfl
theorem kblk_x {id Q s i} : kblk id Q (.x i) s = if i = id then Q .n s else Q (.x i) s := nr rfl
theorem kblk_r {id Q s} : kblk id Q .r s = Q .r s := nr rfl
theorem AFin_n {rs r s} : AFin rs r .n s = (retOf s rs = some r) := nr rfl
theorem AFin_r {rs r s} : AFin rs r .r s = (retOf s rs = some r) := nr rfl
theorem AFin_x {rs r s i} : AFin rs r (.x i) s = False := nr rfl
def numb : Nat → List PV → List (Nat × PV)
 | _, [] => []
 | n, p :: r => (n, p) :: numb (n + 1) r
theorem numb_eq : ∀ (l : List PV) (n : Nat), numb n l = (List.range' n l.length).zip l
 | [], _ => rfl
 | p :: r, n => by rw [numb, numb_eq r, List.length_cons, List.range'_succ, List.zip_cons_cons]
theorem init_eq (args : List PV) : init args = ⟨ofL (numb 0 args), []⟩ := by
 rw [init, numb_eq, List.range_eq_range']
theorem numb_nil {n : Nat} : numb n [] = [] := nr rfl
theorem numb_cons {n : Nat} {p r} : numb n (p :: r) = (n, p) :: numb (n + 1) r := nr rfl
theorem ofL_same {t : Nat} {v : PV} {r : List (Nat × PV)} : ofL ((t, v) :: r) t = v := by simp [ofL]
theorem ofL_ne {t : Nat} {v : PV} {r : List (Nat × PV)} {i : Nat} (h : i ≠ t) : ofL ((t, v) :: r) i = ofL r i := by simp [ofL, h]
theorem ofL_nil {i : Nat} : ofL [] i = .bot := nr rfl
theorem upd_same {f : Nat → PV} {i : Nat} {v : PV} : upd f i v i = v := by simp [upd]
theorem upd_ne {f : Nat → PV} {i : Nat} {v : PV} {j : Nat} (h : j ≠ i) : upd f i v j = f j := by simp [upd, h]
theorem val_t {f ob i} : St.val ⟨f, ob⟩ (.t i) = f i := nr rfl
theorem val_k {f ob v} : St.val ⟨f, ob⟩ (.k v) = v := nr rfl
theorem put_some {f ob d v ob'} : St.put ⟨f, ob⟩ (some d) v ob' = ⟨upd f d v, ob'⟩ := nr rfl
theorem put_none {f ob v ob'} : St.put ⟨f, ob⟩ none v ob' = ⟨f, ob'⟩ := nr rfl
theorem AWP_skip {P bb Q s} : AWP P bb .skip Q s = Q .n s := nr rfl
theorem AWP_reg {P bb ops Q f ob} : AWP P bb (.reg ops) Q ⟨f, ob⟩ = AOps P ob.length ops (Q .n) ⟨f, ob⟩ := nr rfl
theorem AWP_dreg {P bb m ops Q f ob} : AWP P bb (.dreg m ops) Q ⟨f, ob⟩ = AOps P ob.length ops (Q .n) ⟨f, ob ++ List.replicate m .none⟩ := nr rfl
theorem AWP_seq {P bb a b Q s} : AWP P bb (.seq a b) Q s = AWP P bb a (kseq (AWP P bb b Q) Q) s := nr rfl
theorem AWP_block {P bb id b Q s} : AWP P bb (.block id b) Q s = AWP P bb b (kblk id Q) s := nr rfl
theorem AWP_exit {P bb id Q s} : AWP P bb (.exit id) Q s = Q (.x id) s := nr rfl
theorem AWP_ret {P bb Q s} : AWP P bb .ret Q s = Q .r s := nr rfl
def kB (c : PV) (A B : Prop) : Prop :=
 match c with
 | .bool t => (t = true → A) ∧ (t = false → B)
 | _ => False
theorem kB_t {A B} : kB (.bool true) A B = A := by simp [kB]
theorem kB_f {A B} : kB (.bool false) A B = B := by simp [kB]
@[congr] theorem kB_congr {c c' : PV} {A B : Prop} (h : c = c') : kB c A B = kB c' A B := by rw [h]
theorem kB_bool {t A B} : kB (.bool t) A B = ((t = true → A) ∧ (t = false → B)) := nr rfl
theorem AWP_cond {P bb c a b Q f ob} : AWP P bb (.cond c a b) Q ⟨f, ob⟩ = kB (St.val ⟨f, ob⟩ c) (AWP P bb a Q ⟨f, ob⟩) (AWP P bb b Q ⟨f, ob⟩) := nr rfl
def kO (o : Option (PV × List AObj)) (k : PV → List AObj → Prop) : Prop :=
 match o with
 | some (v, ob) => k v ob
 | none => False
theorem kO_some {v ob k} : kO (some (v, ob)) k = k v ob := nr rfl
def tag (ob : List AObj) (o : Option PV) : Option (PV × List AObj) := o.map fun v => (v, ob)
theorem kO_tag {v ob k} : kO (tag ob (some v)) k = k v ob := nr rfl
def kG (c : Option Bool) (A B : Prop) : Prop :=
 match c with
 | some true => A
 | some false => B
 | none => False
theorem AOps_nil {P bs K s} : AOps P bs [] K s = K s := nr rfl
def kA (P : Program) (bs : Nat) (os : List AOp) (K : St → Prop) (f : Nat → PV) (d : Option Nat) (v : PV) (ob : List AObj) : Prop := AOps P bs os K (St.put ⟨f, ob⟩ d v ob)
theorem kA_app {P bs os K f d v ob} : kA P bs os K f d v ob = AOps P bs os K (St.put ⟨f, ob⟩ d v ob) := nr rfl
theorem AOps_op {P bs K d ao nw fb os f ob} (h : ao.isCall = false) : AOps P bs (⟨d, ao, none, nw, fb, none⟩ :: os) K ⟨f, ob⟩ = kO (ev (fb.map (rsv bs ⟨f, ob⟩)) (nw.map (bs + ·)) ⟨f, ob⟩ ao) (kA P bs os K f d) := by
 have e : ∀ x : Option (PV × List AObj), (True ∧ match x with | some (v, ob) => AOps P bs os K (St.put ⟨f, ob⟩ d v ob) | none => False) = kO x (kA P bs os K f d) := by
  intro x
  cases x with
  | none => simp [kO]
  | some x => simp [kO, kA]
 simp only [AOps, AStep]
 rw [← e]
 cases ao <;> first | (cases h; done) | (cases d <;> rfl)
theorem AOps_guard {P bs K d ao g w nw fb tg os f ob} : AOps P bs (⟨d, ao, some (g, w), nw, fb, tg⟩ :: os) K ⟨f, ob⟩ = kG (gdec (f g) w) (AOps P bs (⟨d, ao, none, nw, fb, tg⟩ :: os) K ⟨f, ob⟩) (AOps P bs os K (St.put ⟨f, ob⟩ d skipV ob)) := by
 simp only [AOps, AStep]
 cases gdec (f g) w with
 | none => rfl
 | some t => cases t <;> rfl
theorem AOps_gt {P bs K d ao g w nw fb tg os f ob} (h : f g = .bool w) : AOps P bs (⟨d, ao, some (g, w), nw, fb, tg⟩ :: os) K ⟨f, ob⟩ = AOps P bs (⟨d, ao, none, nw, fb, tg⟩ :: os) K ⟨f, ob⟩ := by
 rw [AOps_guard, h]; cases w <;> rfl
theorem AOps_gf {P bs K d ao g nw fb tg os f ob} (h : f g = .bool false) : AOps P bs (⟨d, ao, some (g, true), nw, fb, tg⟩ :: os) K ⟨f, ob⟩ = AOps P bs os K (St.put ⟨f, ob⟩ d skipV ob) := by
 rw [AOps_guard, h]; rfl
theorem AOps_gn {P bs K d ao g nw fb tg os f ob} (h : f g = .bool true) : AOps P bs (⟨d, ao, some (g, false), nw, fb, tg⟩ :: os) K ⟨f, ob⟩ = AOps P bs os K (St.put ⟨f, ob⟩ d skipV ob) := by
 rw [AOps_guard, h]; rfl
theorem AOps_gs {P bs K d ao g w nw fb tg os f ob} (h : f g = skipV) : AOps P bs (⟨d, ao, some (g, w), nw, fb, tg⟩ :: os) K ⟨f, ob⟩ = AOps P bs os K (St.put ⟨f, ob⟩ d skipV ob) := by
 rw [AOps_guard, h]; rfl
theorem AOps_call {P bs K d own fn args nw fb tg os f ob} : AOps P bs (⟨d, .call own fn args, none, nw, fb, tg⟩ :: os) K ⟨f, ob⟩ = ACall P own (fb.map (rsv bs ⟨f, ob⟩)) (nw.map (bs + ·)) fn (args.map (St.val ⟨f, ob⟩)) d (AOps P bs os K) ⟨f, ob⟩ := nr rfl
theorem ACall_free {P own forb nw f ps d K s} (h : ownL ps = false) : ACall P own forb nw f ps d K s = ∃ r, PCall P f ps r ∧ ARes own nw d K r s := by
 simp only [ACall, h, if_true]
theorem ARes_int {own nw d K s k n} : ARes own nw d K (.int k n) s = K (s.put d (.int k n) s.ob) := nr rfl
theorem ARes_bool {own nw d K s b} : ARes own nw d K (.bool b) s = K (s.put d (.bool b) s.ob) := nr rfl
theorem ARes_str {own nw d K s b} : ARes own nw d K (.str b) s = K (s.put d (.str b) s.ob) := nr rfl
theorem ARes_agg {own nw d K s b} : ARes own nw d K (.agg b) s = K (s.put d (.agg b) s.ob) := nr rfl
theorem ARes_tup {own nw d K s b} : ARes own nw d K (.tup b) s = K (s.put d (.tup b) s.ob) := nr rfl
theorem ARes_slc {own nw d K s b} : ARes own nw d K (.slc b) s = K (s.put d (.slc b) s.ob) := nr rfl
theorem ARes_nils {own nw d K s} : ARes own nw d K .nils s = K (s.put d .nils s.ob) := nr rfl
theorem ARes_own {nw d K s e rows} : ARes false nw d K (.own e rows) s = K (s.put d (.slc rows) s.ob) := nr rfl
theorem ob_mk {f ob} : St.ob ⟨f, ob⟩ = ob := nr rfl
theorem sl_mk {f ob} : St.sl ⟨f, ob⟩ = f := nr rfl
theorem callI {P : Program} {f : Nat} {ps : List PV} {own nw d K s} {r : PV} (h : PCall P f ps r) (hk : ARes own nw d K r s) : ∃ r, PCall P f ps r ∧ ARes own nw d K r s := ⟨r, h, hk⟩
theorem ownL_nil : ownL [] = false := nr rfl
theorem ownL_int {k n r} : ownL (.int k n :: r) = ownL r := by simp [ownL, PV.own?]
theorem ownL_bool {b r} : ownL (.bool b :: r) = ownL r := by simp [ownL, PV.own?]
theorem ownL_str {b r} : ownL (.str b :: r) = ownL r := by simp [ownL, PV.own?]
theorem ownL_slc {b r} : ownL (.slc b :: r) = ownL r := by simp [ownL, PV.own?]
theorem ownL_nils {r} : ownL (.nils :: r) = ownL r := by simp [ownL, PV.own?]
theorem ownL_agg {cs r} : ownL (.agg cs :: r) = (ownL cs || ownL r) := by simp [ownL, PV.own?]
theorem ownL_ref {o i r} : ownL (.ref o i :: r) = true := by simp [ownL, PV.own?]
theorem ownL_osl {o i n r} : ownL (.osl o i n :: r) = true := by simp [ownL, PV.own?]
theorem isCall_mv {x} : AO.isCall (.mv x) = false := nr rfl
theorem isCall_pick {c a b} : AO.isCall (.pick c a b) = false := nr rfl
theorem isCall_alloc {z} : AO.isCall (.alloc z) = false := nr rfl
theorem isCall_box {x} : AO.isCall (.box x) = false := nr rfl
theorem isCall_build {z parts} : AO.isCall (.build z parts) = false := nr rfl
theorem isCall_blds {own z len parts} : AO.isCall (.blds own z len parts) = false := nr rfl
theorem isCall_load {n a} : AO.isCall (.load n a) = false := nr rfl
theorem isCall_store {n a x} : AO.isCall (.store n a x) = false := nr rfl
theorem isCall_nilck {x} : AO.isCall (.nilck x) = false := nr rfl
theorem isCall_bin {op x y} : AO.isCall (.bin op x y) = false := nr rfl
theorem isCall_eqs {neg ks x y} : AO.isCall (.eqs neg ks x y) = false := nr rfl
theorem isCall_eqb {neg x y} : AO.isCall (.eqb neg x y) = false := nr rfl
theorem isCall_un {op x} : AO.isCall (.un op x) = false := nr rfl
theorem isCall_conv {k x} : AO.isCall (.conv k x) = false := nr rfl
theorem isCall_b2s {x} : AO.isCall (.b2s x) = false := nr rfl
theorem isCall_s2b {own x} : AO.isCall (.s2b own x) = false := nr rfl
theorem isCall_faddr {off x} : AO.isCall (.faddr off x) = false := nr rfl
theorem isCall_fld {n off x} : AO.isCall (.fld n off x) = false := nr rfl
theorem isCall_iarr {esz len x i} : AO.isCall (.iarr esz len x i) = false := nr rfl
theorem isCall_isl {esz x i} : AO.isCall (.isl esz x i) = false := nr rfl
theorem isCall_idxs {x i} : AO.isCall (.idxs x i) = false := nr rfl
theorem isCall_idxa {n esz len x i} : AO.isCall (.idxa n esz len x i) = false := nr rfl
theorem isCall_sstr {x lo hi} : AO.isCall (.sstr x lo hi) = false := nr rfl
theorem isCall_ssl {esz x lo hi} : AO.isCall (.ssl esz x lo hi) = false := nr rfl
theorem isCall_sarr {esz len x lo hi} : AO.isCall (.sarr esz len x lo hi) = false := nr rfl
theorem isCall_ext {i x} : AO.isCall (.ext i x) = false := nr rfl
theorem isCall_mki {t x} : AO.isCall (.mki t x) = false := nr rfl
theorem isCall_tas {t x} : AO.isCall (.tas t x) = false := nr rfl
theorem isCall_mkfn {f first cap} : AO.isCall (.mkfn f first cap) = false := nr rfl
theorem isCall_lenc {n} : AO.isCall (.lenc n) = false := nr rfl
theorem isCall_lens {x} : AO.isCall (.lens x) = false := nr rfl
theorem isCall_len {x} : AO.isCall (.len x) = false := nr rfl
theorem isCall_app {esz bytes z x y} : AO.isCall (.app esz bytes z x y) = false := nr rfl
theorem isCall_apps {e x y} : AO.isCall (.apps e x y) = false := nr rfl
theorem isCall_usd {x} : AO.isCall (.usd x) = false := nr rfl
theorem isCall_ust {e x y} : AO.isCall (.ust e x y) = false := nr rfl
theorem isCall_balloc {t u} : AO.isCall (.balloc t u) = false := nr rfl
theorem isCall_mm {isMax xs} : AO.isCall (.mm isMax xs) = false := nr rfl
theorem isCall_mks {own z bytes x y} : AO.isCall (.mks own z bytes x y) = false := nr rfl
theorem isCall_nilown {esz} : AO.isCall (.nilown esz) = false := nr rfl
theorem isCall_nilsl {neg x} : AO.isCall (.nilsl neg x) = false := nr rfl
theorem isCall_isn {k neg x} : AO.isCall (.isn k neg x) = false := nr rfl
def pickV : PV → PV → PV → Option PV
 | .bool t, a, b => some (if t then a else b)
 | _, _, _ => none
theorem pickV_t {a b} : pickV (.bool true) a b = some a := nr rfl
theorem pickV_f {a b} : pickV (.bool false) a b = some b := nr rfl
def convV (k : IntKind) : PV → Option PV
 | .int _ n => some (.int k (k.wrap n))
 | _ => none
theorem convV_int {k k' n} : convV k (.int k' n) = some (.int k (k.wrap n)) := nr rfl
def lensV : PV → Option PV
 | .str l => some (.int .i64 l.length)
 | _ => none
theorem lensV_str {l} : lensV (.str l) = some (.int .i64 l.length) := nr rfl
def idxsV : PV → PV → Option PV
 | .str l, .int _ n => if 0 ≤ n then (l[n.toNat]?).map fun b => .int .u8 b.toNat else none
 | _, _ => none
theorem idxsV_at {l : List UInt8} {k} {n : Nat} (h : n < l.length) : idxsV (.str l) (.int k n) = some (.int .u8 l[n].toNat) := by
 simp [idxsV, h]
def extV (i : Nat) : PV → Option PV
 | .tup cs => cs[i]?
 | _ => none
theorem extV_tup {i cs} : extV i (.tup cs) = cs[i]? := nr rfl
def sstrV : PV → Option (Option Int) → Option (Option Int) → Option PV
 | .str l, some a, some b => (bounds l.length a b).map fun (i, j) => .str ((l.take j).drop i)
 | _, _, _ => none
theorem sstrV_to {l : List UInt8} {h : Nat} (hh : h ≤ l.length) : sstrV (.str l) (some none) (some (some (h : Int))) = some (.str (l.take h)) := by
 simp [sstrV, bounds, hh]
theorem sstrV_from {l : List UInt8} {i : Nat} (hh : i ≤ l.length) : sstrV (.str l) (some (some (i : Int))) (some none) = some (.str (l.drop i)) := by
 simp [sstrV, bounds, hh]
theorem optI_n {s} : optI s none = some none := nr rfl
theorem optI_s {f ob x} : optI ⟨f, ob⟩ (some x) = (asI (St.val ⟨f, ob⟩ x)).map some := nr rfl
theorem asI_int {k n} : (asI (.int k n)).map some = some (some n) := nr rfl
def b2sV (o : Option (List (List PV))) : Option PV := (o.bind bytesOf?).map .str
theorem b2sV_some {rows l} (h : bytesOf? rows = some l) : b2sV (some rows) = some (.str l) := by simp [b2sV, h]
theorem rsv_lt {bs s k} (h : k < 1000000) : rsv bs s k = bs + k := by simp only [rsv, h, if_true]
theorem ev_mv {fb nw f ob x} : ev fb nw ⟨f, ob⟩ (.mv x) = some (St.val ⟨f, ob⟩ x, ob) := nr rfl
theorem ev_pick {fb nw f ob a b c} : ev fb nw ⟨f, ob⟩ (.pick c a b) = tag ob (pickV (St.val ⟨f, ob⟩ c) (St.val ⟨f, ob⟩ a) (St.val ⟨f, ob⟩ b)) := by
 simp only [ev]; cases St.val ⟨f, ob⟩ c <;> rfl
theorem ev_bin {fb nw f ob op x y} : ev fb nw ⟨f, ob⟩ (.bin op x y) = tag ob (binV op (St.val ⟨f, ob⟩ x) (St.val ⟨f, ob⟩ y)) := nr rfl
theorem ev_un {fb nw f ob op x} : ev fb nw ⟨f, ob⟩ (.un op x) = tag ob (unV op (St.val ⟨f, ob⟩ x)) := nr rfl
theorem ev_conv {fb nw f ob k x} : ev fb nw ⟨f, ob⟩ (.conv k x) = tag ob (convV k (St.val ⟨f, ob⟩ x)) := by
 simp only [ev]; cases St.val ⟨f, ob⟩ x <;> rfl
theorem ev_lens {fb nw f ob x} : ev fb nw ⟨f, ob⟩ (.lens x) = tag ob (lensV (St.val ⟨f, ob⟩ x)) := by
 simp only [ev]; cases St.val ⟨f, ob⟩ x <;> rfl
theorem ev_idxs {fb nw f ob x i} : ev fb nw ⟨f, ob⟩ (.idxs x i) = tag ob (idxsV (St.val ⟨f, ob⟩ x) (St.val ⟨f, ob⟩ i)) := by
 simp only [ev, idxsV]
 cases St.val ⟨f, ob⟩ x <;> cases St.val ⟨f, ob⟩ i <;> first | rfl | skip
 rename_i l k n
 by_cases h : 0 ≤ n <;> simp [h, tag]
 cases l[n.toNat]? <;> rfl
theorem ev_ext {fb nw f ob i x} : ev fb nw ⟨f, ob⟩ (.ext i x) = tag ob (extV i (St.val ⟨f, ob⟩ x)) := by
 simp only [ev]; cases St.val ⟨f, ob⟩ x <;> rfl
theorem ev_sstr {fb nw f ob x lo hi} : ev fb nw ⟨f, ob⟩ (.sstr x lo hi) = tag ob (sstrV (St.val ⟨f, ob⟩ x) (optI ⟨f, ob⟩ lo) (optI ⟨f, ob⟩ hi)) := by
 simp only [ev]
 cases St.val ⟨f, ob⟩ x <;> cases optI ⟨f, ob⟩ lo <;> cases optI ⟨f, ob⟩ hi <;> first | rfl | skip
 rename_i l a b
 simp only [sstrV, tag]
 cases bounds l.length a b <;> rfl
theorem ev_b2s {fb nw f ob x} : ev fb nw ⟨f, ob⟩ (.b2s x) = tag ob (b2sV (rowsOf ob fb (St.val ⟨f, ob⟩ x))) := by
 simp only [ev, b2sV, tag]
 cases (rowsOf ob fb (St.val ⟨f, ob⟩ x)).bind bytesOf? <;> rfl
def bldsV (o : Option (List (List PV))) : Option PV := o.bind fun rows => if rows.all (fun r => r.all PV.scal && !ownL r) then some (.slc rows) else none
theorem bldsV_some {rows} (h : rows.all (fun r => r.all PV.scal && !ownL r) = true) : bldsV (some rows) = some (.slc rows) := by simp only [bldsV, Option.bind_some, h, if_true]
theorem ev_blds {fb nw f ob z n ps} : ev fb nw ⟨f, ob⟩ (.blds false z n ps) = tag ob (bldsV (fillR ⟨f, ob⟩ z.length (List.replicate n z) ps)) := by
 simp only [ev, bldsV, tag]
 cases fillR ⟨f, ob⟩ z.length (List.replicate n z) ps with
 | none => rfl
 | some rows => simp only [Option.bind_some]; split <;> simp_all
theorem rowsOf_slc {ob fb rows} : rowsOf ob fb (.slc rows) = some rows := nr rfl
theorem rowsOf_nils {ob fb} : rowsOf ob fb .nils = some [] := nr rfl
theorem byteRows_length {l : List UInt8} : (byteRows l).length = l.length := by simp [byteRows]
theorem bytesOf_byteRows {l : List UInt8} : bytesOf? (byteRows l) = some l := by
 induction l with
 | nil => simp [byteRows, bytesOf?]
 | cons b l ih =>
  have e : byteRows (b :: l) = [.int .u8 (b.toNat : Int)] :: byteRows l := by simp [byteRows]
  rw [e, bytesOf?, ih]; simp [byteOf?]
def newO (ob : List AObj) (a : AObj) (k : Nat → PV) : Option (PV × List AObj) := some (k ob.length, ob ++ [a])
theorem kO_new {ob a k K} : kO (newO ob a k) K = K (k ob.length) (ob ++ [a]) := nr rfl
def s2bO (ob : List AObj) : PV → Option (PV × List AObj)
 | .str l => newO ob (.list 1 (byteRows l)) fun o => .osl o 0 l.length
 | _ => none
theorem s2bO_str {ob l} : s2bO ob (.str l) = newO ob (.list 1 (byteRows l)) fun o => .osl o 0 l.length := nr rfl
theorem ev_s2bo {fb f ob x} : ev fb none ⟨f, ob⟩ (.s2b true x) = s2bO ob (St.val ⟨f, ob⟩ x) := by
 simp only [ev]; cases St.val ⟨f, ob⟩ x <;> rfl
def s2bV : PV → Option PV
 | .str l => some (.slc (byteRows l))
 | _ => none
theorem s2bV_str {l} : s2bV (.str l) = some (.slc (byteRows l)) := nr rfl
theorem ev_s2b {fb nw f ob x} : ev fb nw ⟨f, ob⟩ (.s2b false x) = tag ob (s2bV (St.val ⟨f, ob⟩ x)) := by
 simp only [ev]; cases St.val ⟨f, ob⟩ x <;> rfl
theorem ev_nilown {fb f ob e} : ev fb none ⟨f, ob⟩ (.nilown e) = newO ob (.list e []) fun o => .osl o 0 0 := nr rfl
def lenV (o : Option (List (List PV))) : Option PV := o.map fun r => .int .i64 r.length
theorem lenV_some {r} : lenV (some r) = some (.int .i64 r.length) := nr rfl
theorem ev_len {fb nw f ob x} : ev fb nw ⟨f, ob⟩ (.len x) = tag ob (lenV (rowsOf ob fb (St.val ⟨f, ob⟩ x))) := by
 simp only [ev, lenV, tag]; cases rowsOf ob fb (St.val ⟨f, ob⟩ x) <;> rfl
def rowsO (a : Option AObj) (i n : Nat) : Option (List (List PV)) :=
 match a with
 | some (.list _ rows) => if i + n = rows.length then some (rows.drop i) else none
 | some (.buf _ bs) => if i = 0 ∧ n = bs.length then some (byteRows bs) else none
 | _ => none
theorem rowsO_all {e rows n} (h : n = rows.length) : rowsO (some (.list e rows)) 0 n = some rows := by simp [rowsO, h]
def islO (a : Option AObj) (esz o j m : Nat) (x : PV) : Option PV :=
 match a, x with
 | some (.list z rows), .int _ n => if z = esz ∧ j + m = rows.length ∧ 0 ≤ n ∧ n < m then some (.lref o (j + n.toNat) 0 rows.length) else none
 | _, _ => none
def islV (ob : List AObj) (fb : List Nat) (esz : Nat) (x i : PV) : Option PV :=
 match x with
 | .slc rows => match i with
  | .int _ n => if 0 ≤ n then
    match rows[n.toNat]? with
    | some r => if r.length = esz then some (.fptr r) else none
    | none => none
   else none
  | _ => none
 | .osl o j m => if fb.contains o then none else islO ob[o]? esz o j m i
 | .bsl o off m => match i with
  | .int _ n => if 0 ≤ n ∧ n < m then some (.ref o (off + n.toNat * esz)) else none
  | _ => none
 | _ => none
theorem islV_bsl {ob fb e o off k n} {m : Nat} (h : (decide (0 ≤ n) && decide (n < (m : Int))) = true) : islV ob fb e (.bsl o off m) (.int k n) = some (.ref o (off + n.toNat * e)) := by
 simp only [Bool.and_eq_true, decide_eq_true_eq] at h
 simp only [islV]
 rw [if_pos h]
theorem islO_at {e rows o m k} {n : Nat} (hm : m = rows.length) (h : n < rows.length) : islO (some (.list e rows)) e o 0 m (.int k n) = some (.lref o n 0 rows.length) := by
 simp [islO, hm, h]
theorem islV_slc {ob fb e rows k} {n : Nat} (h : n < rows.length) (he : (rows[n]).length = e) : islV ob fb e (.slc rows) (.int k n) = some (.fptr rows[n]) := by
 simp [islV, h, he]
theorem ev_isl {fb nw f ob e x i} : ev fb nw ⟨f, ob⟩ (.isl e x i) = tag ob (islV ob fb e (St.val ⟨f, ob⟩ x) (St.val ⟨f, ob⟩ i)) := by
 simp only [ev, islV]
 generalize St.val ⟨f, ob⟩ x = X
 generalize St.val ⟨f, ob⟩ i = Y
 cases X with
 | slc rows =>
  cases Y with
  | int k n =>
   by_cases h : 0 ≤ n
   ·simp only [h, if_true]
    cases rows[n.toNat]? with
    | none => rfl
    | some r => by_cases hr : r.length = e <;> simp [hr, tag]
   ·simp [h, tag]
  | _ => rfl
 | osl o j m =>
  cases Y with
  | int k n =>
   by_cases h : fb.contains o = true
   ·simp only [h, if_true]; rfl
   ·simp only [h, islO]
    cases ob[o]? with
    | none => rfl
    | some a =>
     cases a with
     | list z rows => simp only [Bool.false_eq_true, if_false]; split <;> rfl
     | _ => rfl
  | _ =>
   by_cases h : fb.contains o = true
   ·simp only [h, if_true]; rfl
   ·simp only [h, islO]
    cases ob[o]? with
    | none => rfl
    | some a => cases a <;> rfl
 | bsl o off m =>
  cases Y with
  | int k n => by_cases h : 0 ≤ n ∧ n < (m : Int) <;> simp [h, tag]
  | _ => rfl
 | _ => cases Y <;> rfl
def loadV (n : Option Nat) (o : Option (List PV)) : Option PV :=
 match n, o with
 | none, some [v] => some v
 | some _, some cs => some (.agg cs)
 | _, _ => none
theorem loadV_one {v} : loadV none (some [v]) = some v := nr rfl
theorem loadV_agg {n cs} : loadV (some n) (some cs) = some (.agg cs) := nr rfl
theorem ev_load1 {fb nw f ob a} : ev fb nw ⟨f, ob⟩ (.load none a) = tag ob (loadV none (ldC ob fb (St.val ⟨f, ob⟩ a) 1)) := by
 simp only [ev]
 cases ldC ob fb (St.val ⟨f, ob⟩ a) 1 with
 | none => rfl
 | some l => rcases l with _ | ⟨v, _ | ⟨w, l⟩⟩ <;> rfl
theorem ev_loadn {fb nw f ob n a} : ev fb nw ⟨f, ob⟩ (.load (some n) a) = tag ob (loadV (some n) (ldC ob fb (St.val ⟨f, ob⟩ a) n)) := by
 simp only [ev]
 cases ldC ob fb (St.val ⟨f, ob⟩ a) n <;> rfl
def ldL (a : Option AObj) (i off len n : Nat) : Option (List PV) :=
 match a with
 | some (.list _ rows) =>
  if rows.length = len then
   match rows[i]? with
   | some r => if off + n ≤ r.length then some ((r.drop off).take n) else none
   | none => none
  else none
 | _ => none
theorem ldL_at {e rows i off len n} (hl : rows.length = len) (hi : i < rows.length) (h : off + n ≤ rows[i].length) : ldL (some (.list e rows)) i off len n = some ((rows[i].drop off).take n) := by
 subst hl
 simp only [ldL, if_true, List.getElem?_eq_getElem hi, h]
def ldB (a : Option AObj) (off n : Nat) : Option (List PV) :=
 match a with
 | some (.box cs) => if off + n ≤ cs.length then some ((cs.drop off).take n) else none
 | some (.tbox _ cs) => if off + n ≤ cs.length then some ((cs.drop off).take n) else none
 | _ => none
theorem ldB_box {cs off n} (h : off + n ≤ cs.length) : ldB (some (.box cs)) off n = some ((cs.drop off).take n) := by simp [ldB, h]
def stO (n : Nat) (ob : List AObj) (fb : List Nat) (a x : PV) : Option (PV × List AObj) :=
 if x.cellsOf.length = n ∧ x.cellsOf.all PV.cell? then (stC ob fb a x.cellsOf).map fun ob => (.bot, ob) else none
theorem ev_store {fb nw f ob n a x} : ev fb nw ⟨f, ob⟩ (.store n a x) = stO n ob fb (St.val ⟨f, ob⟩ a) (St.val ⟨f, ob⟩ x) := nr rfl
theorem binI_add {k : IntKind} {a b : Int} : binI .add k a b = some (.int k (k.wrap (a + b))) := nr rfl
theorem binI_sub {k : IntKind} {a b : Int} : binI .sub k a b = some (.int k (k.wrap (a - b))) := nr rfl
theorem binI_mul {k : IntKind} {a b : Int} : binI .mul k a b = some (.int k (k.wrap (a * b))) := nr rfl
theorem binI_quo {k : IntKind} {a b : Int} (h : b ≠ 0) : binI .quo k a b = some (.int k (k.wrap (a.tdiv b))) := by simp only [binI, h, if_false]
theorem binI_rem {k : IntKind} {a b : Int} (h : b ≠ 0) : binI .rem k a b = some (.int k (a.tmod b)) := by simp only [binI, h, if_false]
theorem binI_eql {k : IntKind} {a b : Int} : binI .eql k a b = some (.bool (a == b)) := nr rfl
theorem binI_neq {k : IntKind} {a b : Int} : binI .neq k a b = some (.bool (a != b)) := nr rfl
theorem binI_lss {k : IntKind} {a b : Int} : binI .lss k a b = some (.bool (decide (a < b))) := nr rfl
theorem binI_leq {k : IntKind} {a b : Int} : binI .leq k a b = some (.bool (decide (a ≤ b))) := nr rfl
theorem binI_gtr {k : IntKind} {a b : Int} : binI .gtr k a b = some (.bool (decide (b < a))) := nr rfl
theorem binI_geq {k : IntKind} {a b : Int} : binI .geq k a b = some (.bool (decide (b ≤ a))) := nr rfl
theorem binV_int {op : BinOp} {k : IntKind} {a b : Int} (h1 : op ≠ .shl) (h2 : op ≠ .shr) : binV op (.int k a) (.int k b) = binI op k a b := by
 unfold binV; cases op <;> first | exact absurd rfl h1 | exact absurd rfl h2 | simp
theorem binV_shl {k k' : IntKind} {a b : Int} : binV .shl (.int k a) (.int k' b) = shI .shl k a b := nr rfl
theorem binV_shr {k k' : IntKind} {a b : Int} : binV .shr (.int k a) (.int k' b) = shI .shr k a b := nr rfl
theorem binV_str {op : BinOp} {a b : List UInt8} : binV op (.str a) (.str b) = binS op a b := nr rfl
theorem binS_add {a b : List UInt8} (h : a.length + b.length ≤ 9223372036854775807) : binS .add a b = some (.str (a ++ b)) := by simp only [binS, h, if_true]
theorem binS_eql {a b : List UInt8} : binS .eql a b = some (.bool (a == b)) := nr rfl
theorem binS_neq {a b : List UInt8} : binS .neq a b = some (.bool (!(a == b))) := nr rfl
theorem unV_not {b : Bool} : unV .not (.bool b) = some (.bool (!b)) := nr rfl
theorem unV_neg {k : IntKind} {n : Int} : unV .neg (.int k n) = some (.int k (k.wrap (0 - n))) := nr rfl
def setR (n : Nat) (z : List (List PV)) (i : Nat) (v : PV) : Option (List (List PV)) :=
 if v.known ∧ v.cellsOf.length = n ∧ i < z.length then some (z.set i v.cellsOf) else none
def bindR (o : Option (List (List PV))) (k : List (List PV) → Option (List (List PV))) : Option (List (List PV)) := o.bind k
theorem bindR_some {z k} : bindR (some z) k = k z := nr rfl
theorem fillR_nil {s n z} : fillR s n z [] = some z := by simp [fillR]
theorem fillR_cons {s n z i x r} : fillR s n z ((i, x) :: r) = bindR (setR n z i (s.val x)) fun z => fillR s n z r := by
 simp only [fillR, bindR, setR]; split <;> rfl
theorem setR_int {z i k m} (h : i < z.length) : setR 1 z i (.int k m) = some (z.set i [.int k m]) := by simp [setR, PV.known, PV.cellsOf, h]
theorem setR_str {z i m} (h : i < z.length) : setR 1 z i (.str m) = some (z.set i [.str m]) := by simp [setR, PV.known, PV.cellsOf, h]
theorem scal_int {k n} : PV.scal (.int k n) = true := nr rfl
theorem scal_bool {b} : PV.scal (.bool b) = true := nr rfl
theorem scal_str {b} : PV.scal (.str b) = true := nr rfl
theorem scal_slc {b} : PV.scal (.slc b) = true := nr rfl
theorem scal_nils : PV.scal .nils = true := nr rfl
theorem bldsV_ok {rows} (h : rows.all (fun r => r.all PV.scal && !ownL r) = true) : bldsV (some rows) = some (.slc rows) := bldsV_some h
theorem b2sV_rows {rows} : b2sV (some rows) = (bytesOf? rows).map .str := nr rfl
theorem bytesOf_nil : bytesOf? [] = some [] := by simp [bytesOf?]
theorem bytesOf_cons {b : UInt8} {rs : List (List PV)} : bytesOf? ([.int .u8 (b.toNat : Int)] :: rs) = (bytesOf? rs).map (b :: ·) := by
 simp only [bytesOf?, byteOf?, Int.toNat_natCast, UInt8.ofNat_toNat]
 cases bytesOf? rs <;> rfl
theorem snapL_nil {ob fb} : snapL ob fb [] = some [] := by simp [snapL]
theorem snapL_int {ob fb k n r} : snapL ob fb (.int k n :: r) = (snapL ob fb r).map (.int k n :: ·) := by
 simp only [snapL, snap]; cases snapL ob fb r <;> rfl
theorem snapL_bool {ob fb b r} : snapL ob fb (.bool b :: r) = (snapL ob fb r).map (.bool b :: ·) := by
 simp only [snapL, snap]; cases snapL ob fb r <;> rfl
theorem snapL_str {ob fb b r} : snapL ob fb (.str b :: r) = (snapL ob fb r).map (.str b :: ·) := by
 simp only [snapL, snap]; cases snapL ob fb r <;> rfl
theorem snapL_slc {ob fb b r} : snapL ob fb (.slc b :: r) = (snapL ob fb r).map (.slc b :: ·) := by
 simp only [snapL, snap]; cases snapL ob fb r <;> rfl
theorem snapL_nils {ob fb r} : snapL ob fb (.nils :: r) = (snapL ob fb r).map (.nils :: ·) := by
 simp only [snapL, snap]; cases snapL ob fb r <;> rfl
theorem retOf_1 {f ob i} : retOf ⟨f, ob⟩ [.t i] = retV ⟨f, ob⟩ (f i) := nr rfl
theorem retV_int {s k n} : retV s (.int k n) = some (.int k n) := by simp [retV, snap]
theorem retV_bool {s b} : retV s (.bool b) = some (.bool b) := by simp [retV, snap]
theorem retV_str {s b} : retV s (.str b) = some (.str b) := by simp [retV, snap]
theorem retV_slc {s b} : retV s (.slc b) = some (.slc b) := by simp [retV, snap]
theorem retV_nils {s} : retV s .nils = some .nils := by simp [retV, snap]
theorem retOf_2 {f ob i j} : retOf ⟨f, ob⟩ [.t i, .t j] = (snapL ob [] [f i, f j]).map .tup := nr rfl
theorem retOf_3 {f ob i j k} : retOf ⟨f, ob⟩ [.t i, .t j, .t k] = (snapL ob [] [f i, f j, f k]).map .tup := nr rfl
def keepL (f : Nat → PV) (n : Nat) : List Nat → List (Nat × PV)
 | [] => []
 | t :: r => (t, cutV n (f t)) :: keepL f n r
theorem keepL_eq {f n} : ∀ (L : List Nat), keepL f n L = L.map fun t => (t, cutV n (f t))
 | [] => rfl
 | t :: r => by simp [keepL, keepL_eq r]
theorem keep_eq {f ob L n} : St.keep ⟨f, ob⟩ L n = ⟨ofL (keepL f n L), (ob.take n).map (cutO n)⟩ := by rw [keepL_eq]; rfl
theorem keepB_n {s L bb n} (h : n ≠ 1000000000) : St.keepB s L bb n = St.keep s L (bb + n) := by simp only [St.keepB, h, if_false]
def keepR (f : Nat → PV) : List Nat → List (Nat × PV)
 | [] => []
 | t :: r => (t, f t) :: keepR f r
theorem keepR_eq {f} : ∀ (L : List Nat), keepR f L = L.map fun t => (t, f t)
 | [] => rfl
 | t :: r => by simp [keepR, keepR_eq r]
theorem keepB_a {f ob L bb n} (h : n = 1000000000) : St.keepB ⟨f, ob⟩ L bb n = ⟨ofL (keepR f L), ob⟩ := by rw [keepR_eq]; simp only [St.keepB, h, if_true]; rfl
theorem keepR_nil {f} : keepR f [] = [] := nr rfl
theorem keepR_cons {f t r} : keepR f (t :: r) = (t, f t) :: keepR f r := nr rfl
theorem keepL_nil {f n} : keepL f n [] = [] := nr rfl
theorem keepL_cons {f n t r} : keepL f n (t :: r) = (t, cutV n (f t)) :: keepL f n r := nr rfl
theorem cutV_int {n k x} : cutV n (.int k x) = .int k x := by simp [cutV, PV.und]
theorem cutV_bool {n x} : cutV n (.bool x) = .bool x := by simp [cutV, PV.und]
theorem cutV_str {n x} : cutV n (.str x) = .str x := by simp [cutV, PV.und]
theorem cutV_slc {n x} : cutV n (.slc x) = .slc x := by simp [cutV, PV.und]
theorem cutV_nils {n} : cutV n .nils = .nils := by simp [cutV, PV.und]
theorem cutV_osl {n o i m} (h : o < n) : cutV n (.osl o i m) = .osl o i m := by simp [cutV, PV.und, h]
theorem cutV_ref {n o i} (h : o < n) : cutV n (.ref o i) = .ref o i := by simp [cutV, PV.und, h]
theorem toNatL {n : Nat} : Int.toNat (no_index (OfNat.ofNat n)) = OfNat.ofNat n := Int.toNat_natCast n
theorem toNat0 : Int.toNat 0 = 0 := Int.toNat_natCast 0
theorem toNat1 : Int.toNat 1 = 1 := Int.toNat_natCast 1
theorem ARes_mono {own nw d r s} {K K' : St → Prop} (h : ∀ s, K s → K' s) (hk : ARes own nw d K r s) : ARes own nw d K' r s := by
 unfold ARes at hk ⊢
 split at hk
 ·split at hk
  ·rename_i ho
   simp only [ho, if_true]
   split at hk
   ·exact h _ hk
   ·exact hk.elim
  ·rename_i ho; simp only [ho]; exact h _ hk
 ·exact h _ hk
theorem ACall_mono {P : Program} {own forb nw f ps d s} {K K' : St → Prop} (h : ∀ s, K s → K' s) (hk : ACall P own forb nw f ps d K s) : ACall P own forb nw f ps d K' s := by
 unfold ACall at hk ⊢
 split
 ·rename_i ho
  rw [if_pos ho] at hk
  obtain ⟨r, h1, h2⟩ := hk
  exact ⟨r, h1, ARes_mono h h2⟩
 ·rename_i ho
  rw [if_neg ho] at hk
  split at hk
  ·obtain ⟨r, h1, h2, h3⟩ := hk
   exact ⟨r, h1, h2, ARes_mono h h3⟩
  ·exact hk.elim
theorem ICall_mono {P : Program} {f : Nat} {ps : List PV} {ob : List AObj} {K K' : PV → List AObj → Prop} (h : ∀ r ob, K r ob → K' r ob) (hk : ICall P f ps ob K) : ICall P f ps ob K' := by
 refine ⟨⟨hk.1.1, by obtain ⟨r, ob', h'⟩ := hk.1.2; exact ⟨r, ob', h _ _ h'⟩⟩, fun c w F l vs hR hv => (hk.2 c w F l vs hR hv).mono ?_⟩
 rintro e w' ⟨v, r, ob', F', l', h1, h2, h3, h4, h5⟩
 exact ⟨v, r, ob', F', l', h1, h2, h3, h4, h _ _ h5⟩
theorem ECall_mono {P : Program} {f : Nat} {ps : List PV} {ob : List AObj} {K K' : PV → List AObj → Prop} (h : ∀ r ob, K r ob → K' r ob) (hk : ECall P f ps ob K) : ECall P f ps ob K' := by
 refine ⟨by obtain ⟨r, ob', h'⟩ := hk.1; exact ⟨r, ob', h _ _ h'⟩, fun c w F l vs hR hv => ?_⟩
 obtain ⟨v, r, ob', w', F', l', h1, h2, h3, h4, h5⟩ := hk.2 c w F l vs hR hv
 exact ⟨v, r, ob', w', F', l', h1, h2, h3, h4, h _ _ h5⟩
theorem AExec_mono {P : Program} {bs : Nat} {o : AOp} {s} {K K' : St → Prop} (h : ∀ s, K s → K' s) (hk : AExec P bs o K s) : AExec P bs o K' s := by
 unfold AExec at hk ⊢
 split
 ·rename_i e; rw [e] at hk; exact ACall_mono h hk
 ·rename_i x args e; rw [e] at hk
  simp only at hk
  revert hk
  cases s.val x with
  | fn f a b => cases f <;> intro hk <;> first | exact ACall_mono h hk | exact hk.elim
  | _ => intro hk; exact hk.elim
 ·rename_i e; rw [e] at hk; exact ICall_mono (fun _ _ => h _) hk
 ·rename_i x args e; rw [e] at hk
  simp only at hk
  revert hk
  cases s.val x with
  | fn f a b => cases f <;> intro hk <;> first | exact ICall_mono (fun _ _ => h _) hk | exact hk.elim
  | _ => intro hk; exact hk.elim
 ·rename_i nm x args e; rw [e] at hk
  simp only at hk
  revert hk
  cases s.val x with
  | ifc t p => rintro ⟨f, hm, hk⟩; exact ⟨f, hm, ICall_mono (fun _ _ => h _) hk⟩
  | _ => intro hk; exact hk.elim
 ·rename_i e; rw [e] at hk; exact MStep_mono (fun _ _ => h _) hk
 ·rename_i e; rw [e] at hk; obtain ⟨r, h1, h2⟩ := hk; exact ⟨r, h1, h _ h2⟩
 ·rename_i e; rw [e] at hk; exact ECall_mono (fun _ _ => h _) hk
 ·rename_i nm x args e; rw [e] at hk
  simp only at hk
  revert hk
  cases s.val x with
  | ifc t p => rintro ⟨f, hm, r, hk, hkk⟩; exact ⟨f, hm, r, hk, h _ hkk⟩
  | _ => intro hk; exact hk.elim
 ·rename_i n1 n2 n3 n4 n4b n5 n6 n7 n8
  split at hk
  ·rename_i e; exact absurd e (n1 _ _ _)
  ·rename_i e; exact absurd e (n2 _ _)
  ·rename_i e; exact absurd e (n3 _ _)
  ·rename_i e; exact absurd e (n4 _ _)
  ·rename_i e; exact absurd e (n4b _ _ _)
  ·rename_i e; exact absurd e (n5 _ _)
  ·rename_i e; exact absurd e (n6 _ _)
  ·rename_i e; exact absurd e (n7 _ _)
  ·rename_i e; exact absurd e (n8 _ _ _)
  ·refine ⟨hk.1, ?_⟩
   replace hk := hk.2
   revert hk
   cases ev (o.forb.map (rsv bs s)) (o.nw.map (bs + ·)) s o.ao with
   | none => exact fun hk => hk.elim
   | some x => exact fun hk => h _ hk
theorem AStep_mono {P : Program} {bs : Nat} {o : AOp} {s} {K K' : St → Prop} (h : ∀ s, K s → K' s) (hk : AStep P bs o K s) : AStep P bs o K' s := by
 unfold AStep at hk ⊢
 split
 ·rename_i e; rw [e] at hk; exact AExec_mono h hk
 ·rename_i g want e; rw [e] at hk
  simp only at hk
  revert hk
  cases gdec (s.sl g) want with
  | none => intro hk; exact hk.elim
  | some t =>
   cases t with
   | true => intro hk; exact AExec_mono h hk
   | false => intro hk; exact h _ hk
theorem AOps_mono {P : Program} {bs : Nat} : ∀ (os : List AOp) {s} {K K' : St → Prop} (_ : ∀ s, K s → K' s), AOps P bs os K s → AOps P bs os K' s
 | [], _, _, _, h, hk => h _ hk
 | _ :: os, _, _, _, h, hk => AStep_mono (fun _ => AOps_mono os h) hk
theorem ATO_mono {P : Program} {bs : Nat} : ∀ (t : DTO) {s} {K K' : St → Prop} (_ : ∀ s, K s → K' s), ATO P bs t K s → ATO P bs t K' s
 | .leaf l, _, _, _, h, hk => AOps_mono l h hk
 | .node l a b, _, _, _, h, hk => AOps_mono l (fun _ h' => ⟨ATO_mono a h h'.1, ATO_mono b h h'.2⟩) hk
theorem kseq_mono {k k' : St → Prop} {Q Q' : Ex → St → Prop} (hk : ∀ s, k s → k' s) (h : ∀ e s, Q e s → Q' e s) : ∀ e s, kseq k Q e s → kseq k' Q' e s
 | .n, s, hh => hk s hh
 | .x _, s, hh => h _ s hh
 | .r, s, hh => h _ s hh
theorem kblk_mono {id : Nat} {Q Q' : Ex → St → Prop} (h : ∀ e s, Q e s → Q' e s) : ∀ e s, kblk id Q e s → kblk id Q' e s
 | .n, s, hh => h _ s hh
 | .x j, s, hh => by
  simp only [kblk] at hh ⊢
  split at hh
  ·rename_i e; rw [if_pos e]; exact h _ _ hh
  ·rename_i e; rw [if_neg e]; exact h _ _ hh
 | .r, s, hh => h _ s hh
theorem AWP_mono {P : Program} {bb : Nat} : ∀ (ac : AC) {Q Q' : Ex → St → Prop} {s : St} (_ : ∀ e s, Q e s → Q' e s), AWP P bb ac Q s → AWP P bb ac Q' s
 | .skip, _, _, _, h, hk => h _ _ hk
 | .reg ops, _, _, _, h, hk => AOps_mono ops (h .n) hk
 | .dreg _ ops, _, _, _, h, hk => AOps_mono ops (h .n) hk
 | .dreg2 _ pre a b, _, _, _, h, hk => AOps_mono pre (fun _ h' => ⟨AOps_mono a (h .n) h'.1, AOps_mono b (h .n) h'.2⟩) hk
 | .dregs _ t, _, _, _, h, hk => ATO_mono t (h .n) hk
 | .seq a b, _, _, _, h, hk => AWP_mono a (kseq_mono (fun _ => AWP_mono b h) h) hk
 | .cond c a b, Q, Q', s, h, hk => by
  simp only [AWP] at hk ⊢
  revert hk
  cases s.val c with
  | bool t => exact fun hk => ⟨fun e => AWP_mono a h (hk.1 e), fun e => AWP_mono b h (hk.2 e)⟩
  | _ => exact fun hk => hk.elim
 | .block id b, _, _, _, h, hk => AWP_mono b (kblk_mono h) hk
 | .loop L n b, Q, Q', s, h, hk => by
  obtain ⟨I, μ, h0, h1⟩ := hk
  refine ⟨I, μ, h0, fun t ht => AWP_mono b ?_ (h1 t ht)⟩
  intro e s hh
  cases e with
  | n => exact hh
  | x i => exact h _ _ hh
  | r => exact h _ _ hh
 | .exit id, _, _, _, h, hk => h _ _ hk
 | .ret, _, _, _, h, hk => h _ _ hk
 | .fail, _, _, _, _, hk => hk.elim
def kfam {α : Type} (L : List Nat) (bb n : Nat) (f : α → St) (J : α → Prop) (μ : α → Nat) (m : Nat) (Q : Ex → St → Prop) : Ex → St → Prop
 | .n, t => ∃ y, t.keepB L bb n = f y ∧ J y ∧ μ y < m
 | e, t => Q e t
theorem kfam_n {α : Type} {L bb n} {f : α → St} {J μ m Q t} : kfam L bb n f J μ m Q .n t = ∃ y, t.keepB L bb n = f y ∧ J y ∧ μ y < m := nr rfl
theorem kfam_x {α : Type} {L bb n} {f : α → St} {J μ m Q t i} : kfam L bb n f J μ m Q (.x i) t = Q (.x i) t := nr rfl
theorem kfam_r {α : Type} {L bb n} {f : α → St} {J μ m Q t} : kfam L bb n f J μ m Q .r t = Q .r t := nr rfl
theorem least {p : Nat → Prop} (h : ∃ k, p k) : ∃ k, p k ∧ ∀ j, p j → k ≤ j := by
 obtain ⟨k, hk⟩ := h
 induction k using Nat.strongRecOn with
 | _ k ih =>
  by_cases hh : ∃ j, j < k ∧ p j
  ·obtain ⟨j, h1, h2⟩ := hh; exact ih j h1 h2
  ·exact ⟨k, hk, fun j hj => Nat.le_of_not_lt fun hlt => hh ⟨j, hlt, hj⟩⟩
open Classical in
theorem loopF {P : Program} {bb : Nat} {L : List Nat} {n : Nat} {b : AC} {Q : Ex → St → Prop} {s : St} {α : Type} (f : α → St) (J : α → Prop) (μ : α → Nat) (x0 : α) (h0 : s.keepB L bb n = f x0) (hJ : J x0)
  (h : ∀ x, J x → AWP P bb b (kfam L bb n f J μ (μ x) Q) (f x)) : AWP P bb (.loop L n b) Q s := by
 let m : St → Nat := fun t => if hh : ∃ k, ∃ x, t = f x ∧ J x ∧ μ x = k then Classical.choose (least hh) else 0
 have hm : ∀ y, J y → m (f y) ≤ μ y := by
  intro y hy
  have hh : ∃ k, ∃ x, f y = f x ∧ J x ∧ μ x = k := ⟨μ y, y, rfl, hy, rfl⟩
  simp only [m, dif_pos hh]
  exact (Classical.choose_spec (least hh)).2 _ ⟨y, rfl, hy, rfl⟩
 refine ⟨fun t => ∃ x, t = f x ∧ J x, m, ⟨x0, h0, hJ⟩, ?_⟩
 rintro t ⟨x1, rfl, hx1⟩
 have hh : ∃ k, ∃ x, f x1 = f x ∧ J x ∧ μ x = k := ⟨μ x1, x1, rfl, hx1, rfl⟩
 obtain ⟨x, hx, hJx, hμ⟩ := (Classical.choose_spec (least hh)).1
 have hme : m (f x1) = μ x := by simp only [m, dif_pos hh]; exact hμ.symm
 rw [hme, hx]
 refine AWP_mono b ?_ (h x hJx)
 intro e t hk
 cases e with
 | n =>
  obtain ⟨y, h1, h2, h3⟩ := hk
  exact ⟨⟨y, h1, h2⟩, by rw [h1]; exact Nat.lt_of_le_of_lt (hm y h2) h3⟩
 | x i => exact hk
 | r => exact hk
theorem wrapI {n : Int} (h1 : -9223372036854775808 ≤ n) (h2 : n ≤ 9223372036854775807) : IntKind.i64.wrap n = n := by
 have e : (2 : Int) ^ 64 = 18446744073709551616 := by decide
 have e' : (2 : Int) ^ (64 - 1) = 9223372036854775808 := by decide
 simp only [IntKind.wrap, IntKind.bits, IntKind.signed, Bool.true_and, decide_eq_true_eq, e, e']
 split <;> omega
theorem wrapU {n : Int} (h1 : 0 ≤ n) (h2 : n < 18446744073709551616) : IntKind.u64.wrap n = n := by
 have e : (2 : Int) ^ 64 = 18446744073709551616 := by decide
 simp only [IntKind.wrap, IntKind.bits, IntKind.signed, Bool.false_and, e]
 show n % 18446744073709551616 = n
 omega
def u32 (c : BitVec 32) : PV := .int .u32 c.toNat
open Go.ChangeShapes Go.WideShapes Go.ChangeAt Go.RowKit
theorem trodAll_below {H : Type} {enc : TypeId × Value → H} {P : Program} (hl : laidOutB P = true) {W W' : World} (hb : Below W.heap.size W W') :
  ∀ (ts : List TypeId) (vs : List Value) (ds : List (DataW H)) (ps : List MemPlace), DataW.TrodAll enc P W 0 (fun _ => true) true ts vs ds ps → (ts.all fun t => P.readableRec t && decide (t < P.types.size)) = true →
   (∀ x ∈ ps, x.block < W.heap.size) → DataW.TrodAll enc P W' 0 (fun b => decide (b < W.heap.size)) true ts vs ds ps
 | [], [], [], _, h, _, _ => h
 | [], [], _ :: _, _, h, _, _ => h.elim
 | [], _ :: _, _, _, h, _, _ => h.elim
 | _ :: _, [], _, _, h, _, _ => h.elim
 | _ :: _, _ :: _, [], _, h, _, _ => h.elim
 | t :: ts, v :: vs, d :: ds, ps, h, ht, hlt => by
  obtain ⟨p, q, h1, h2, rfl⟩ := h
  simp only [List.all_cons, Bool.and_eq_true, decide_eq_true_eq] at ht
  exact ⟨p, q, Below.trod hl ht.1.1 ht.1.2 h1 hb (fun x hx => hlt x (List.mem_append_left _ hx)), trodAll_below hl hb ts vs ds q h2 ht.2 (fun x hx => hlt x (List.mem_append_right _ hx)), rfl⟩
theorem closes {H : Type} {enc : TypeId × Value → H} {P : Program} (hl : laidOutB P = true) {fn : Func} {s : ChangeSpec} {f : Nat} {W : World} {args : Array Value} {ds gs : List (DataW H)} {before : List MemPlace} {t : TypeId} {F : Nat → Prop} {ps : List PV}
  (hW : DataW.Whole enc P fn.params.toList s.vars false W args.toList ds gs before) (hts : (fn.params.toList.all fun t => P.readableRec t && decide (t < P.types.size)) = true) (hvars : s.vars = []) (hres : fn.resultTypes = #[t])
  (ht : P.underlying t = some .bool) (hs : gs = [] → s.fn H (ds ++ gs) = { results := [.lit (.bool true)], args := ds }) (hF : ∀ b, F b → b < W.heap.size) (hR : RL W F (fun _ => none) ps args.toList) (hp : PCall P f ps (.bool true)) (hg : GlobOk W := by trivial) :
  Calls P f args W fun e W' => ∃ v, e = .returned v ∧ s.post enc P fn false true false false W args v W' := by
 have hc := hp.2 W F args.toList hg hF hR
 rw [Array.toArray_toList] at hc
 refine hc.mono fun e W' ⟨v, F', he, hb, _, _, _, hr⟩ => ⟨v, he, ?_⟩
 have hv : v = .bool true := by cases hr; rfl
 subst hv
 have hW' := hW
 obtain ⟨p, q, hA, hV, rfl, _, _⟩ := hW
 rw [hvars] at hV
 obtain ⟨rfl, rfl⟩ := trodVars_none hV
 have hs' := hs rfl
 refine ⟨ds, [], p ++ [], [], p, [], hW', ?_, ?_, ?_, Below.frame hb _, fun h => nomatch h⟩
 ·rw [hs', hres]; exact trodAll_mk1 (shut_bool ht true)
 ·rw [hs']; exact trodAll_below hl hb _ _ _ _ hA hts (fun x hx => hW'.lt x (by simpa using hx))
 ·rw [hs', hvars]; rfl
theorem R1.string {W : World} {F : Nat → Prop} {l : Locs} (s : ByteArray) : R1 W F l (.str s.data.toList) (.string s) := by
 have := R1.str (w := W) (F := F) (l := l) s.data.toList
 rwa [Array.toArray_toList] at this
end Go.Proofs.YtdgpiobmncohjaaGreatDoor.Aw
