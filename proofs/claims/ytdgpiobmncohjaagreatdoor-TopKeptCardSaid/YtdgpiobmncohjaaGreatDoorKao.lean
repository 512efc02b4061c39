/-
 Numbers and bytes in a walk.; The rules of the walk, in bundles.
-/
import Derived.Test.YtdgpiobmncohjaaGreatDoorKan
set_option linter.all false
namespace Go.Proofs.YtdgpiobmncohjaaGreatDoor.Aw
open Go.RowKit
theorem wrap8 (n : Int) : IntKind.u8.wrap n = n % 256 := by
 have e : (2 : Int) ^ 8 = 256 := by decide
 simp only [IntKind.wrap, IntKind.bits, IntKind.signed, Bool.false_and, e]; rfl
theorem wrap64 (n : Int) : IntKind.u64.wrap n = n % 18446744073709551616 := by
 have e : (2 : Int) ^ 64 = 18446744073709551616 := by decide
 simp only [IntKind.wrap, IntKind.bits, IntKind.signed, Bool.false_and, e]; rfl
theorem islV_map {α : Type} {ob fb k} {g : α → List PV} {l : List α} {e n : Nat} (h : n < l.length) (he : (g l[n]).length = e) : islV ob fb e (.slc (l.map g)) (.int k (n : Int)) = some (.fptr (g l[n])) := by
 rw [islV_slc (by simpa using h) (by simpa using he)]; simp
theorem app_map {α : Type} {ob fb nw o n e} {g : α → List PV} {l m : List α} (hf : fb.contains o = false) (ho : ob[o]? = some (.list e (l.map g))) (h1 : n = l.length) (h2 : l.length ≤ 16777216) (hm : m.length ≤ 16777216) (hg : ∀ y, (g y).length = e) :
  appO ob fb nw e (.osl o 0 n) (some (m.map g)) = some (.osl o 0 (n + m.length), ob.set o (.list e ((l ++ m).map g))) := by
 rw [appO_osl hf ho (by simp [h1]) (by simpa using h2) (rowsOk_map hg m) (by simpa using hm)]; simp
def rowsN (k : IntKind) (l : List Nat) : List (List PV) := l.map fun n : Nat => [PV.int k (n : Int)]
def rowsZ (k : IntKind) (l : List Int) : List (List PV) := l.map fun n : Int => [PV.int k n]
theorem rowsN_len {k l} : (rowsN k l).length = l.length := by simp [rowsN]
theorem rowsZ_len {k l} : (rowsZ k l).length = l.length := by simp [rowsZ]
theorem rowsN_nil {k} : rowsN k [] = [] := rfl
theorem islV_N {ob fb k k'} {l : List Nat} {n : Nat} (h : n < l.length) : islV ob fb 1 (.slc (rowsN k' l)) (.int k (n : Int)) = some (.fptr [.int k' (l[n] : Int)]) := islV_map (g := fun n : Nat => [PV.int k' (n : Int)]) h rfl
theorem islV_Z {ob fb k k'} {l : List Int} {n : Nat} (h : n < l.length) : islV ob fb 1 (.slc (rowsZ k' l)) (.int k (n : Int)) = some (.fptr [.int k' l[n]]) := islV_map (g := fun n : Int => [PV.int k' n]) h rfl
theorem app_N {ob fb nw o n k} {l : List Nat} {x : Nat} (hf : fb.contains o = false) (ho : ob[o]? = some (.list 1 (rowsN k l))) (h1 : n = l.length) (h2 : l.length ≤ 16777216) :
  appO ob fb nw 1 (.osl o 0 n) (some [[.int k (x : Int)]]) = some (.osl o 0 (n + 1), ob.set o (.list 1 (rowsN k (l ++ [x])))) :=
 app_map (g := fun n : Nat => [PV.int k (n : Int)]) (m := [x]) hf ho h1 h2 (by simp) fun _ => rfl
theorem rowsO_nil {e} : rowsO (some (.list e [])) 0 0 = some [] := by simp [rowsO]
theorem retV_fn {f ob g a b} : retV ⟨f, ob⟩ (.fn g a b) = fnS g (snapL ob [] a) (snapL ob [] b) := by
 simp only [retV, snap, fnS]
 cases snapL ob [] a <;> cases snapL ob [] b <;> rfl
theorem cutV_fnC {n f cap} (h : undL n cap = true) : cutV n (.fn f [] cap) = .fn f [] cap := by simp [cutV, PV.und, undL, h]
theorem blO_nil {k} : blO (some []) k = k [] := blO_ok rfl
theorem ARes_fn {own nw d K s f a b} : ARes own nw d K (.fn f a b) s = K (s.put d (.fn f a b) s.ob) := nr rfl
theorem ARes_nilf {own nw d K s } : ARes own nw d K .nilf s = K (s.put d .nilf s.ob) := nr rfl
theorem ARes_nilp {own nw d K s } : ARes own nw d K .nilp s = K (s.put d .nilp s.ob) := nr rfl
theorem ARes_fptr {own nw d K s f} : ARes own nw d K (.fptr f) s = K (s.put d (.fptr f) s.ob) := nr rfl
theorem ARes_nili {own nw d K s } : ARes own nw d K .nili s = K (s.put d .nili s.ob) := nr rfl
theorem ARes_ifc {own nw d K s f a} : ARes own nw d K (.ifc f a) s = K (s.put d (.ifc f a) s.ob) := nr rfl
theorem ARes_bot {own nw d K s } : ARes own nw d K .bot s = K (s.put d .bot s.ob) := nr rfl
theorem ARes_ownT {d K f ob e rows} : ARes true none d K (.own e rows) ⟨f, ob⟩ = K (St.put ⟨f, ob⟩ d (.osl ob.length 0 rows.length) (ob ++ [.list e rows])) := nr rfl
theorem ARes_ownA {d K f ob e rows p} (h : ob[p]? = some .none) : ARes true (some p) d K (.own e rows) ⟨f, ob⟩ = K (St.put ⟨f, ob⟩ d (.osl p 0 rows.length) (ob.set p (.list e rows))) := by
 simp only [ARes, mkO, h, if_true]
theorem islO_map {α : Type} {g : α → List PV} {l : List α} {e o m k} {i : Nat} (hm : m = l.length) (h : i < l.length) : islO (some (.list e (l.map g))) e o 0 m (.int k (i : Int)) = some (.lref o i 0 m) := by
 rw [islO_at (by simpa using hm) (by simpa using h)]; simp [hm]
theorem ldL_map {α : Type} {g : α → List PV} {l : List α} {e len off n} {i : Nat} (hl : len = l.length) (h : i < l.length) (hn : off + n ≤ (g l[i]).length) : ldL (some (.list e (l.map g))) i off len n = some (((g l[i]).drop off).take n) := by
 rw [ldL_at (by simp [hl]) (by simpa using h) (by simpa using hn)]; simp
theorem stL_map {α : Type} {g : α → List PV} {l : List α} {ob o e len off} {i : Nat} {vs : List PV} {x : α} (hl : len = l.length) (h : i < l.length) (hn : off + vs.length ≤ (g l[i]).length) (hx : setAt (g l[i]) off vs = g x) :
  stL ob o (some (.list e (l.map g))) i off len vs = some (.bot, ob.set o (.list e ((l.set i x).map g))) := by
 rw [stL_at (by simp [hl]) (by simpa using h) (by simpa using hn)]
 congr 3
 rw [List.getElem_map, hx, List.map_set]
theorem known_mp {o} : PV.known (.mp o) = true := nr rfl
theorem cellsOf_mp {o} : PV.cellsOf (.mp o) = [(.mp o)] := nr rfl
theorem cell_mp {o} : PV.cell? (.mp o) = true := nr rfl
theorem scal_mp {o} : PV.scal (.mp o) = true := nr rfl
theorem known_nilm  : PV.known .nilm = true := nr rfl
theorem cellsOf_nilm  : PV.cellsOf .nilm = [.nilm] := nr rfl
theorem cell_nilm  : PV.cell? .nilm = true := nr rfl
theorem scal_nilm  : PV.scal .nilm = true := nr rfl
theorem known_nili  : PV.known .nili = true := nr rfl
theorem cellsOf_nili  : PV.cellsOf .nili = [.nili] := nr rfl
theorem scal_nili  : PV.scal .nili = true := nr rfl
theorem known_ifc {t p} : PV.known (.ifc t p) = true := nr rfl
theorem cellsOf_ifc {t p} : PV.cellsOf (.ifc t p) = [(.ifc t p)] := nr rfl
theorem scal_ifc {t p} : PV.scal (.ifc t p) = true := nr rfl
theorem known_nilf  : PV.known .nilf = true := nr rfl
theorem cellsOf_nilf  : PV.cellsOf .nilf = [.nilf] := nr rfl
theorem cell_nilf  : PV.cell? .nilf = true := nr rfl
theorem scal_nilf  : PV.scal .nilf = true := nr rfl
theorem known_fptr {c} : PV.known (.fptr c) = true := nr rfl
theorem cellsOf_fptr {c} : PV.cellsOf (.fptr c) = [(.fptr c)] := nr rfl
theorem cell_fptr {c} : PV.cell? (.fptr c) = true := nr rfl
theorem scal_fptr {c} : PV.scal (.fptr c) = true := nr rfl
theorem known_lref {o i a b} : PV.known (.lref o i a b) = true := nr rfl
theorem cellsOf_lref {o i a b} : PV.cellsOf (.lref o i a b) = [(.lref o i a b)] := nr rfl
theorem cell_lref {o i a b} : PV.cell? (.lref o i a b) = true := nr rfl
theorem scal_lref {o i a b} : PV.scal (.lref o i a b) = false := nr rfl
theorem scal_fn {f a b} : PV.scal (.fn f a b) = true := nr rfl
theorem scal_osl {o i n} : PV.scal (.osl o i n) = false := nr rfl
def isnV (k : NK) (neg : Bool) (p : PV) : Option PV := (isNil? k p).map fun b => .bool (if neg then !b else b)
theorem ev_isn {fb nw f ob k neg x} : ev fb nw ⟨f, ob⟩ (.isn k neg x) = tag ob (isnV k neg (St.val ⟨f, ob⟩ x)) := by
 simp only [ev, isnV, tag, Option.map_map]; rfl
theorem isnV_p0 {neg} : isnV .p neg .nilp = some (.bool (!neg)) := by cases neg <;> rfl
theorem isnV_p1 {neg o i} : isnV .p neg (.ref o i) = some (.bool neg) := by cases neg <;> rfl
theorem isnV_p2 {neg o i a b} : isnV .p neg (.lref o i a b) = some (.bool neg) := by cases neg <;> rfl
theorem isnV_p3 {neg c} : isnV .p neg (.fptr c) = some (.bool neg) := by cases neg <;> rfl
theorem isnV_i0 {neg} : isnV .i neg .nili = some (.bool (!neg)) := by cases neg <;> rfl
theorem isnV_i1 {neg t p} : isnV .i neg (.ifc t p) = some (.bool neg) := by cases neg <;> rfl
theorem isnV_m0 {neg} : isnV .m neg .nilm = some (.bool (!neg)) := by cases neg <;> rfl
theorem isnV_m1 {neg o} : isnV .m neg (.mp o) = some (.bool neg) := by cases neg <;> rfl
theorem AOps_mop {P bs K d m args nw fb tg os f ob} : AOps P bs (⟨d, .mop m args, none, nw, fb, tg⟩ :: os) K ⟨f, ob⟩ = MStep m (args.map (St.val ⟨f, ob⟩)) ob (kA P bs os K f d) := nr (by cases d <;> rfl)
theorem MS_mk {ob K} : MStep .mk [] ob K = K (.mp ob.length) (ob ++ [.map 0 []]) := nr rfl
theorem MS_get {ok z o k ob K} : MStep (.get ok z) [.mp o, .int .i64 k] ob K = mGetO ok z k ob[o]? ob K := nr rfl
theorem mGetO_map {ok z k c es ob K} : mGetO ok z k (some (.map c es)) ob K = mGetP ok z (mGet k es) ob K := nr rfl
theorem mGetP_st {z p ob K} : mGetP true z (some p) ob K = K (.tup [p, .bool true]) ob := nr rfl
theorem mGetP_sf {z p ob K} : mGetP false z (some p) ob K = K p ob := nr rfl
theorem mGetP_nt {z ob K} : mGetP true z none ob K = K (.tup [z, .bool false]) ob := nr rfl
theorem mGetP_nf {z ob K} : mGetP false z none ob K = K z ob := nr rfl
theorem MS_set {o k v ob K} : MStep .set [.mp o, .int .i64 k, v] ob K = mSetO o k v ob[o]? ob K := nr rfl
theorem mSetO_map {o k v c es ob K} : mSetO o k v (some (.map c es)) ob K = mSetP o c k v es (mGet k es) ob K := nr rfl
theorem mSetP_s {o c k v es p ob K} : mSetP o c k v es (some p) ob K = K .bot (ob.set o (.map c (mSet k v es))) := nr rfl
theorem mSetP_n {o c k v es ob K} : mSetP o c k v es none ob K = K .bot (ob.set o (.map (c + 1) (es ++ [(c, k, v)]))) := nr rfl
theorem MS_del {o k ob K} : MStep .del [.mp o, .int .i64 k] ob K = mDelO o k ob[o]? ob K := nr rfl
theorem mDelO_map {o k c es ob K} : mDelO o k (some (.map c es)) ob K = K (.tup []) (ob.set o (.map c (mDel k es))) := nr rfl
theorem MS_len {o ob K} : MStep .len [.mp o] ob K = mLenO ob[o]? ob K := nr rfl
theorem mLenO_map {c es ob K} : mLenO (some (.map c es)) ob K = K (.int .i64 es.length) ob := nr rfl
theorem MS_rng {o ob K} : MStep .rng [.mp o] ob K = mRngO o ob[o]? ob K := nr rfl
theorem mRngO_map {o c es ob K} : mRngO o (some (.map c es)) ob K = K (.ref ob.length 0) (ob ++ [.iter o c [] c]) := nr rfl
theorem MS_nxt {o ob K} : MStep .nxt [.ref o 0] ob K = mNxtO o ob[o]? ob K := nr rfl
theorem mNxtO_iter {o m a b d ob K} : mNxtO o (some (.iter m a b d)) ob K = mNxtM o m a b d ob[m]? ob K := nr rfl
theorem mNxtM_map {o m a b d c es ob K} : mNxtM o m a b d (some (.map c es)) ob K = mNxtP o m a b d c es ob K := nr rfl
theorem MS_ent {o ob K} : MStep .ent [.ref o 0] ob K = mEntO ob[o]? ob K := nr rfl
theorem mEntO_iter {m a b d ob K} : mEntO (some (.iter m a b d)) ob K = mEntM b d ob[m]? ob K := nr rfl
theorem mEntM_map {b c es ob K} : mEntM b c (some (.map c es)) ob K = mEntE (b.getLast?.bind fun b => es.find? fun e => e.1 == b) ob K := nr (by simp only [mEntM, true_and])
theorem entG {l : List Nat} {x : Nat} {f : Nat → Option (Nat × Int × PV)} : (l ++ [x]).getLast?.bind f = f x := by simp
theorem mEntE_some {e ob K} : mEntE (some e) ob K = K (.tup [.int .i64 e.2.1, e.2.2]) ob := nr rfl
theorem ownL_mp {o r} : ownL (.mp o :: r) = true := by simp [ownL, PV.own?]
theorem ownL_nilm {r} : ownL (.nilm :: r) = ownL r := by simp [ownL, PV.own?]
theorem cutV_mp {n o} (h : o < n) : cutV n (.mp o) = .mp o := by simp [cutV, PV.und, h]
theorem cutV_nilm {n} : cutV n .nilm = .nilm := by simp [cutV, PV.und]
theorem cutO_iter {n m a b d} (h : m < n) : cutO n (.iter m a b d) = .iter m a b d := by simp [cutO, h]
theorem mU {a b : AC} (h : a = b) {P bb Q f ob} : AWP P bb a Q ⟨f, ob⟩ = AWP P bb b Q ⟨f, ob⟩ := by rw [h]
theorem mR {a : AC} {l : List AOp} (h : a = .reg l) {P bb Q f ob} : AWP P bb a Q ⟨f, ob⟩ = AOps P ob.length l (Q .n) ⟨f, ob⟩ := by rw [h, AWP_reg]
theorem mD {a : AC} {m : Nat} {l : List AOp} (h : a = .dreg m l) {P bb Q f ob} : AWP P bb a Q ⟨f, ob⟩ = AOps P ob.length l (Q .n) ⟨f, ob ++ List.replicate m .none⟩ := by rw [h, AWP_dreg]
theorem isCall_arr {op xs} : AO.isCall (.arr op xs) = false := nr rfl
theorem isCall_alit {z n ps} : AO.isCall (.alit z n ps) = false := nr rfl
theorem ev_arr {fb nw f ob op xs} : ev fb nw ⟨f, ob⟩ (.arr op xs) = tag ob (arrV op (xs.map (St.val ⟨f, ob⟩))) := nr rfl
theorem arrV_len {o off n c} : arrV .len [.asl o off n c] = some (.int .i64 n) := nr rfl
theorem arrV_len0 : arrV .len [.nils] = some (.int .i64 0) := nr rfl
theorem arrV_cap {o off n c} : arrV .cap [.asl o off n c] = some (.int .i64 c) := nr rfl
theorem arrV_cap0 : arrV .cap [.nils] = some (.int .i64 0) := nr rfl
def ixV (e o off n : Nat) (i : Int) : Option PV := if (decide (0 ≤ i) && decide (i < (n : Int))) = true then some (.ref o (off + i.toNat * e)) else none
theorem arrV_ix {e o off n c k i} : arrV (.ix e) [.asl o off n c, .int k i] = ixV e o off n i := by
 simp only [arrV, ixV, Bool.and_eq_true, decide_eq_true_eq]
theorem ixV_n {e o off n} {i : Nat} (h : decide (i < n) = true) : ixV e o off n (i : Int) = some (.ref o (off + i * e)) := by
 have h := of_decide_eq_true h
 rw [ixV, if_pos (by simp; omega)]; rfl
theorem ixV_0 {e o off n} (h : decide (0 < n) = true) : ixV e o off n 0 = some (.ref o off) := by
 have h := of_decide_eq_true h
 rw [ixV, if_pos (by simp; omega)]; simp
theorem arrV_ixb {e o off n k i} : arrV (.ix e) [.bsl o off n, .int k i] = ixV e o off n i := by
 simp only [arrV, ixV, Bool.and_eq_true, decide_eq_true_eq]
theorem arrV_sl {e bl bh bm o off n c lo hi mx} : arrV (.sl e bl bh bm) [.asl o off n c, lo, hi, mx] = aslB e o off n c (asBnd bl lo 0) (asBnd bh hi n) (asBnd bm mx c) := nr rfl
theorem arrV_sl0 {e bl bh bm lo hi mx} : arrV (.sl e bl bh bm) [.nils, lo, hi, mx] = nilB (asBnd bl lo 0) (asBnd bh hi 0) (asBnd bm mx 0) := nr rfl
theorem asBnd_t {k n d} : asBnd true (.int k n) d = some n := nr rfl
theorem asBnd_f {p d} : asBnd false p d = some d := nr rfl
theorem nilB_0 : nilB (some 0) (some 0) (some 0) = some .nils := nr rfl
theorem aslB_n {e o off n c} {l h m : Nat} (hh : l ≤ h ∧ h ≤ m ∧ m ≤ c) : aslB e o off n c (some (l : Int)) (some (h : Int)) (some (m : Int)) = some (.asl o (off + l * e) (h - l) (m - l)) := by
 have e1 : ((h : Int) - (l : Int)).toNat = h - l := by omega
 have e2 : ((m : Int) - (l : Int)).toNat = m - l := by omega
 simp only [aslB, e1, e2, Int.toNat_natCast]
 rw [if_pos (by omega)]
theorem aslB_z {e o off n c} {h m : Nat} (hh : h ≤ m ∧ m ≤ c) : aslB e o off n c (some 0) (some (h : Int)) (some (m : Int)) = some (.asl o off h m) := by
 have := aslB_n (e := e) (o := o) (off := off) (n := n) (c := c) (l := 0) (h := h) (m := m) (by omega)
 simpa using this
theorem arrV_nil1 {neg o off n c} : arrV (.isnil neg) [.asl o off n c] = some (.bool neg) := nr rfl
theorem arrV_nil0 {neg} : arrV (.isnil neg) [.nils] = some (.bool (!neg)) := nr rfl
def alitO (rows : Option (List (List PV))) (ob : List AObj) : Option (PV × List AObj) :=
 match rows with
 | some [] => newO ob (.box []) fun o => .asl o 0 0 0
 | some [r] => if r.all PV.cell? = true then newO ob (.box r) fun o => .asl o 0 1 1 else none
 | some [r, r'] => if (r.all PV.cell? && r'.all PV.cell?) = true then newO ob (.box (r ++ r')) fun o => .asl o 0 2 2 else none
 | some rows => if rows.flatten.all PV.cell? = true then newO ob (.box rows.flatten) fun o => .asl o 0 rows.length rows.length else none
 | none => none
theorem ev_alit {fb f ob z n ps} : ev fb none ⟨f, ob⟩ (.alit z n ps) = alitO (fillR ⟨f, ob⟩ z.length (List.replicate n z) ps) ob := by
 simp only [ev]
 cases fillR ⟨f, ob⟩ z.length (List.replicate n z) ps with
 | none => rfl
 | some rows =>
  rcases rows with _ | ⟨r, _ | ⟨r', _ | ⟨r2, rs⟩⟩⟩
  ·rfl
  ·simp only [Option.bind_some, alitO, List.flatten_cons, List.flatten_nil, List.append_nil]; rfl
  ·simp only [Option.bind_some, alitO, List.flatten_cons, List.flatten_nil, List.append_nil, List.all_append]; rfl
  ·rfl
theorem alitO_0 {ob} : alitO (some []) ob = some (.asl ob.length 0 0 0, ob ++ [.box []]) := nr rfl
theorem alitO_1 {ob r} (h : r.all PV.cell? = true) : alitO (some [r]) ob = some (.asl ob.length 0 1 1, ob ++ [.box r]) := by simp only [alitO, h, if_true, newO]
theorem alitO_2 {ob r r'} (h : (r.all PV.cell? && r'.all PV.cell?) = true) : alitO (some [r, r']) ob = some (.asl ob.length 0 2 2, ob ++ [.box (r ++ r')]) := by simp only [alitO, h, if_true, newO]
def alitP (rows : Option (List (List PV))) (ob : List AObj) (p : Nat) : Option (PV × List AObj) :=
 match rows with
 | some [] => newAt ob p (.box []) (.asl p 0 0 0)
 | some [r] => if r.all PV.cell? = true then newAt ob p (.box r) (.asl p 0 1 1) else none
 | some [r, r'] => if (r.all PV.cell? && r'.all PV.cell?) = true then newAt ob p (.box (r ++ r')) (.asl p 0 2 2) else none
 | some rows => if rows.flatten.all PV.cell? = true then newAt ob p (.box rows.flatten) (.asl p 0 rows.length rows.length) else none
 | none => none
theorem ev_alitA {fb f ob z n ps p} : ev fb (some p) ⟨f, ob⟩ (.alit z n ps) = alitP (fillR ⟨f, ob⟩ z.length (List.replicate n z) ps) ob p := by
 simp only [ev]
 cases fillR ⟨f, ob⟩ z.length (List.replicate n z) ps with
 | none => rfl
 | some rows =>
  have key : ∀ (cs : List PV) (k : Nat → PV), (mkO ⟨f, ob⟩ (some p) (.box cs)).map (fun (o, ob) => (k o, ob)) = newAt ob p (.box cs) (k p) := fun cs k => mk_some (k := k)
  rcases rows with _ | ⟨r, _ | ⟨r', _ | ⟨r2, rs⟩⟩⟩
  ·simp only [Option.bind_some, alitP, List.flatten_nil, List.all_nil, if_true]; exact key [] fun o => .asl o 0 0 0
  ·simp only [Option.bind_some, alitP, List.flatten_cons, List.flatten_nil, List.append_nil]
   split
   ·exact key r fun o => .asl o 0 1 1
   ·rfl
  ·simp only [Option.bind_some, alitP, List.flatten_cons, List.flatten_nil, List.append_nil, List.all_append]
   split
   ·exact key (r ++ r') fun o => .asl o 0 2 2
   ·rfl
  ·simp only [Option.bind_some, alitP]
   split
   ·exact key _ fun o => .asl o 0 (r :: r' :: r2 :: rs).length (r :: r' :: r2 :: rs).length
   ·rfl
theorem alitP_1 {ob r p} (h : r.all PV.cell? = true) : alitP (some [r]) ob p = newAt ob p (.box r) (.asl p 0 1 1) := by simp only [alitP, h, if_true]
theorem ownL_asl {o a b c r} : ownL (.asl o a b c :: r) = true := by simp [ownL, PV.own?]
theorem cutV_asl {n o a b c} (h : o < n) : cutV n (.asl o a b c) = .asl o a b c := by simp [cutV, PV.und, h]
theorem known_asl {o a b c} : PV.known (.asl o a b c) = true := nr rfl
theorem cellsOf_asl {o a b c} : PV.cellsOf (.asl o a b c) = [.asl o a b c] := nr rfl
theorem cell_asl {o a b c} : PV.cell? (.asl o a b c) = true := nr rfl
theorem scal_asl {o a b c} : PV.scal (.asl o a b c) = false := nr rfl
theorem AOps_ecall {P bs K d fn args nw fb tg os f ob} : AOps P bs (⟨d, .ecall fn args, none, nw, fb, tg⟩ :: os) K ⟨f, ob⟩ = ECall P fn (args.map (St.val ⟨f, ob⟩)) ob (kA P bs os K f d) := nr (by cases d <;> rfl)
def kJ (P : Program) (nm : String) (v : PV) (args : List PV) (ob : List AObj) (K : PV → List AObj → Prop) : Prop :=
 match v with
 | .ifc t p => ∃ f, MethOk P t nm f ∧ ∃ r, RCall P f (p :: args) ob r ∧ K r ob
 | _ => False
theorem kJ_ifc {P nm t p args ob K} : kJ P nm (.ifc t p) args ob K = ∃ f, MethOk P t nm f ∧ ∃ r, RCall P f (p :: args) ob r ∧ K r ob := nr rfl
theorem callJ {P : Program} {t : TypeId} {nm : String} {f : Nat} {ps : List PV} {ob : List AObj} {r : PV} {K : PV → Prop} (hm : MethOk P t nm f) (h : RCall P f ps ob r) (hk : K r) : ∃ f, MethOk P t nm f ∧ ∃ r, RCall P f ps ob r ∧ K r := ⟨f, hm, r, h, hk⟩
theorem AOps_rcalli {P bs K d nm x args nw fb tg os f ob} : AOps P bs (⟨d, .rcalli nm x args, none, nw, fb, tg⟩ :: os) K ⟨f, ob⟩ = kJ P nm (St.val ⟨f, ob⟩ x) (args.map (St.val ⟨f, ob⟩)) ob (kA P bs os K f d) := by
 simp only [AOps, AStep, AExec, kJ]
 generalize St.val ⟨f, ob⟩ x = v
 cases v <;> first | rfl | (cases d <;> rfl)
open Go.RowKit
def bP0 := (And.intro (And.intro (And.intro @List.any_cons.{0} @List.any_nil.{0}) (And.intro @List.map_cons.{0,0} @List.map_nil.{0,0})) (And.intro (And.intro @Option.map_some.{0,0} @Option.map_none.{0,0}) (And.intro @List.length_nil.{0} @List.length_cons.{0})))
def bP1 := (And.intro (And.intro (And.intro @List.take_zero.{0} @List.take_succ_cons.{0}) (And.intro @List.take_nil.{0} @List.replicate_succ.{0})) (And.intro (And.intro @List.replicate_zero.{0} @List.set_cons_zero.{0}) (And.intro @List.set_cons_succ.{0} @List.all_cons.{0})))
def bP2 := (And.intro (And.intro (And.intro @List.all_nil.{0} @List.getElem?_cons_zero.{0}) (And.intro @List.getElem?_cons_succ.{0} @List.nil_append.{0})) (And.intro (And.intro @List.cons_append.{0} @List.append_nil.{0}) (And.intro @List.append_assoc.{0} @List.length_append.{0})))
def bP3 := (And.intro (And.intro (And.intro @List.getElem?_nil.{0} @beq_self_eq_true.{0}) (And.intro @List.drop_zero.{0} @List.drop_succ_cons.{0})) (And.intro (And.intro @List.drop_nil.{0} @Option.getD_some.{0}) (And.intro @List.length_set.{0} @List.length_map.{0,0})))
def bK0 := (And.intro (And.intro (And.intro @not_false_eq_true @Nat.zero_add) (And.intro @Bool.or_false @true_implies)) (And.intro (And.intro @false_implies @true_and) (And.intro @and_true @and_self)))
def bK1 := (And.intro (And.intro (And.intro @decide_true @decide_false) (And.intro @decide_eq_true_eq @Bool.true_eq_false)) (And.intro (And.intro @Bool.false_eq_true @Bool.and_true) (And.intro @Bool.not_false @Nat.add_zero)))
def bK2 := (And.intro (And.intro (And.intro @Bool.or_self @Bool.and_self) (And.intro @Bool.not_true @Bool.true_and)) (And.intro (And.intro @Bool.false_and @Bool.and_false) (And.intro @Bool.false_or @Bool.true_or)))
def bK3 := (And.intro (And.intro (And.intro @Bool.or_true @and_false) @false_and) (And.intro (And.intro @Int.cast_ofNat_Int @decide_true) @decide_false))
def bW0 := (And.intro (And.intro (And.intro @kseq_n @kseq_x) (And.intro @kseq_r @kblk_n)) (And.intro (And.intro @kblk_x @kblk_r) (And.intro @AFin_n @AFin_r)))
def bW1 := (And.intro (And.intro (And.intro @AFin_x @init_eq) (And.intro @numb_nil @numb_cons)) (And.intro (And.intro @ofL_same @ofL_ne) (And.intro @ofL_nil @upd_same)))
def bW2 := (And.intro (And.intro (And.intro @upd_ne @val_t) (And.intro @val_k @put_some)) (And.intro (And.intro @put_none @AWP_skip) (And.intro @AWP_reg @AWP_dreg)))
def bW3 := (And.intro (And.intro (And.intro @AWP_seq @AWP_block) (And.intro @AWP_exit @AWP_ret)) (And.intro (And.intro @kB_t @kB_f) (And.intro @kB_bool @AWP_cond)))
def bW4 := (And.intro (And.intro (And.intro @kO_some @kO_tag) (And.intro @AOps_nil @AOps_op)) (And.intro (And.intro @AOps_gt @AOps_gf) (And.intro @AOps_gn @AOps_gs)))
def bW5 := (And.intro (And.intro (And.intro @AOps_call @ACall_free) (And.intro @ARes_int @ARes_bool)) (And.intro (And.intro @ARes_str @ARes_agg) (And.intro @ARes_tup @ARes_slc)))
def bW6 := (And.intro (And.intro (And.intro @ARes_nils @ARes_own) (And.intro @ob_mk @sl_mk)) (And.intro (And.intro @ownL_nil @ownL_int) (And.intro @ownL_bool @ownL_str)))
def bW7 := (And.intro (And.intro (And.intro @ownL_slc @ownL_nils) (And.intro @ownL_agg @ownL_ref)) (And.intro (And.intro @ownL_osl @pickV_t) (And.intro @pickV_f @convV_int)))
def bW8 := (And.intro (And.intro (And.intro @lensV_str @extV_tup) (And.intro @optI_n @optI_s)) (And.intro (And.intro @asI_int @ev_mv) (And.intro @ev_pick @ev_bin)))
def bW9 := (And.intro (And.intro (And.intro @ev_un @ev_conv) (And.intro @ev_lens @ev_idxs)) (And.intro (And.intro @ev_ext @ev_sstr) (And.intro @ev_b2s @ev_blds)))
def bW10 := (And.intro (And.intro (And.intro @rowsOf_slc @rowsOf_nils) (And.intro @binI_add @binI_sub)) (And.intro (And.intro @binI_mul @binI_eql) (And.intro @binI_neq @binI_lss)))
def bW11 := (And.intro (And.intro (And.intro @binI_leq @binI_gtr) (And.intro @binI_geq @binV_int)) (And.intro (And.intro @binV_shl @binV_shr) (And.intro @binV_str @binS_eql)))
def bW12 := (And.intro (And.intro (And.intro @binS_neq @unV_not) (And.intro @unV_neg @retOf_1)) (And.intro (And.intro @retV_int @retV_bool) (And.intro @retV_str @retV_slc)))
def bW13 := (And.intro (And.intro (And.intro @retV_nils @retOf_2) (And.intro @retOf_3 @keep_eq)) (And.intro (And.intro @keepL_nil @keepL_cons) (And.intro @cutV_int @cutV_bool)))
def bW14 := (And.intro (And.intro (And.intro @cutV_str @cutV_slc) (And.intro @cutV_nils @cutV_osl)) (And.intro (And.intro @cutV_ref @toNatL) (And.intro @toNat0 @toNat1)))
def bW15 := (And.intro (And.intro (And.intro @kfam_n @kfam_x) (And.intro @kfam_r @isCall_mv)) (And.intro (And.intro @isCall_pick @isCall_alloc) (And.intro @isCall_box @isCall_build)))
def bW16 := (And.intro (And.intro (And.intro @isCall_blds @isCall_load) (And.intro @isCall_store @isCall_nilck)) (And.intro (And.intro @isCall_bin @isCall_eqs) (And.intro @isCall_eqb @isCall_un)))
def bW17 := (And.intro (And.intro (And.intro @isCall_conv @isCall_b2s) (And.intro @isCall_s2b @isCall_faddr)) (And.intro (And.intro @isCall_fld @isCall_iarr) (And.intro @isCall_isl @isCall_idxs)))
def bW18 := (And.intro (And.intro (And.intro @isCall_idxa @isCall_sstr) (And.intro @isCall_ssl @isCall_sarr)) (And.intro (And.intro @isCall_ext @isCall_mkfn) (And.intro @isCall_mki @isCall_tas)))
def bW19 := (And.intro (And.intro (And.intro @ev_mki @ev_tas) (And.intro @tasV_ifc @tasV_nili)) (And.intro (And.intro @kI_ifc @AOps_icalli) (And.intro @islV_bsl @ev_mksB)))
def bW20 := (And.intro (And.intro (And.intro @ev_mksBA @isNils_y) (And.intro @isNils_i @isNils_b)) (And.intro (And.intro @isNils_s @isNils_c) (And.intro @isNils_p @isCall_lenc)))
def bW21 := (And.intro (And.intro (And.intro @isCall_lens @isCall_len) (And.intro @isCall_app @isCall_apps)) (And.intro (And.intro @isCall_mm @isCall_mks) (And.intro @isCall_nilown @isCall_nilsl)))
def bW22 := (And.intro (And.intro (And.intro @bindR_some @fillR_nil) (And.intro @fillR_cons @setR_int)) (And.intro (And.intro @setR_str @scal_int) (And.intro @scal_bool @scal_str)))
def bW23 := (And.intro (And.intro (And.intro @scal_slc @scal_nils) (And.intro @bldsV_ok @b2sV_rows)) (And.intro (And.intro @bytesOf_nil @bytesOf_cons) (And.intro @snapL_nil @snapL_int)))
def bW24 := (And.intro (And.intro (And.intro @snapL_bool @snapL_str) (And.intro @snapL_slc @snapL_nils)) (And.intro (And.intro @AEnd_n @AEnd_r) (And.intro @AEnd_x @rawOf_0)))
def bW25 := (And.intro (And.intro (And.intro @AWP_fail @AWP_ct) (And.intro @AWP_cf @kS_some)) (And.intro (And.intro @kS_map @ACall_own) (And.intro @AOps_icall @kF_fn)))
def bW26 := (And.intro (And.intro (And.intro @AOps_callv @AOps_icallv) (And.intro @ownL_bot @ownL_nilp)) (And.intro (And.intro @ownL_nilf @ownL_nili) (And.intro @ownL_tup @ownL_fn)))
def bW27 := (And.intro (And.intro (And.intro @ownL_fptr @ownL_ifc) (And.intro @ownL_lref @ownL_bsl)) (And.intro (And.intro @snapL_bot @snapL_nilp) (And.intro @snapL_nilf @snapL_nili)))
def bW28 := (And.intro (And.intro (And.intro @snapL_fptr @consS_some) (And.intro @snapL_agg @snapL_tup)) (And.intro (And.intro @snapL_osl @fnS_some) (And.intro @snapL_fn @refS_box)))
def bW29 := (And.intro (And.intro (And.intro @snapL_ref @flatR_int) (And.intro @flatR_bool @flatR_str)) (And.intro (And.intro @flatR_nils @flatR_agg) (And.intro @flatR_tup @flatR_own)))
def bW30 := (And.intro (And.intro (And.intro @flatL_nil @flatL_int) (And.intro @flatL_bool @flatL_str)) (And.intro (And.intro @flatL_nils @flatL_agg) (And.intro @cont_nil @cont_cons)))
def bW31 := (And.intro (And.intro (And.intro @wObj_store @wObj_app) (And.intro @wObj_apps @objOf_ref)) (And.intro (And.intro @objOf_lref @objOf_osl) (And.intro @rsv_place @rsv_slot)))
def bW32 := (And.intro (And.intro (And.intro @some_getD @rowsOf_oslF) (And.intro @ldC_refF @ldC_lrefF)) (And.intro (And.intro @ldB_boxI @ldB_tboxI) (And.intro @ldC_fptrI @islV_oslF)))
def bW33 := (And.intro (And.intro (And.intro @newAt_ok @newO_eq) (And.intro @ev_allocO @ev_allocA)) (And.intro (And.intro @boxO_ok @ev_boxO) (And.intro @ev_boxA @ev_balloc)))
def bW34 := (And.intro (And.intro (And.intro @known_int @known_bool) (And.intro @known_str @known_agg)) (And.intro (And.intro @known_slc @known_nils) (And.intro @known_osl @known_ref)))
def bW35 := (And.intro (And.intro (And.intro @known_nilp @known_fn) (And.intro @cellsOf_int @cellsOf_bool)) (And.intro (And.intro @cellsOf_str @cellsOf_agg) (And.intro @cellsOf_slc @cellsOf_nils)))
def bW36 := (And.intro (And.intro (And.intro @cellsOf_osl @cellsOf_ref) (And.intro @cellsOf_nilp @cellsOf_fn)) (And.intro (And.intro @cell_int @cell_bool) (And.intro @cell_str @cell_slc)))
def bW37 := (And.intro (And.intro (And.intro @cell_nils @cell_osl) (And.intro @cell_ref @cell_nilp)) (And.intro (And.intro @cell_fn @cell_ifc) (And.intro @cell_nili @scal_agg)))
def bW38 := (And.intro (And.intro (And.intro @scal_ref @scal_nilp) (And.intro @stB_box @stB_tbox)) (And.intro (And.intro @stO_ref @stO_lref) (And.intro @setAt_zero @setAt_succ)))
def bW39 := (And.intro (And.intro (And.intro @faddrV_ref @faddrV_lref) (And.intro @faddrV_fptr @ev_faddr)) (And.intro (And.intro @nilckV_ref @nilckV_lref) (And.intro @nilckV_fptr @ev_nilck)))
def bW40 := (And.intro (And.intro (And.intro @fldV_agg @ev_fld) (And.intro @partPV_none @partPV_some)) (And.intro (And.intro @ev_idxa @ev_iarr) (And.intro @setP_ok @bindP_some)))
def bW41 := (And.intro (And.intro (And.intro @fillA_nil @fillA_cons) (And.intro @ev_build @blO_ok)) (And.intro (And.intro @ev_bldsO @ev_bldsA) (And.intro @ev_nilownA @setR_any)))
def bW42 := (And.intro (And.intro (And.intro @ev_mks @ev_mksO) (And.intro @ev_s2bA @ev_app)) (And.intro (And.intro @ev_apps @ev_usd) (And.intro @ev_ust @ustV_nil)))
def bW43 := (And.intro (And.intro (And.intro @ev_ssl @sslV_nil0) (And.intro @sslV_nil1 @ev_eqs)) (And.intro (And.intro @eqsV_p @eqsV_n) (And.intro @andO_some @eqCs_nil)))
def bW44 := (And.intro (And.intro (And.intro @eqCs_cons @eqC_i) (And.intro @eqC_b @eqC_s)) (And.intro (And.intro @ev_eqb @eqbV_f) (And.intro @eqbV_t @ev_mm)))
def bW45 := (And.intro (And.intro (And.intro @mmV_int @mmI_nil) (And.intro @mmI_max @mmI_min)) (And.intro (And.intro @ev_mkfn @ev_lenc) (And.intro @ev_nilsl @isCall_fail)))
def bW46 := (And.intro (And.intro (And.intro @ev_fail @kO_none) (And.intro @retV_osl @retV_agg)) (And.intro (And.intro @retV_nilp @retA_t) (And.intro @retA_c @retA_cn)))
def bW47 := (And.intro (And.intro (And.intro @retOf_c1 @retM_nil) (And.intro @retM_cons @retOf_m)) (And.intro (And.intro @rawOf_c1 @rawOf_m) (And.intro @bind_some' @bind_some1)))
def bW48 := (And.intro (And.intro (And.intro @cutV_nilp @cutV_bot) (And.intro @cutV_fn @cutV_fptr)) (And.intro (And.intro @undL_nil @undL_int) (And.intro @undL_bool @undL_str)))
def bW49 := (And.intro (And.intro (And.intro @undL_slc @undL_nils) (And.intro @cutO_box @cutO_tbox)) (And.intro (And.intro @cutO_list @cutO_buf) (And.intro @cutO_none @isCall_usd)))
def bW50 := (And.intro (And.intro (And.intro @isCall_ust @isCall_balloc) (And.intro @ev_s2bo @s2bO_str)) (And.intro (And.intro @ev_s2b @s2bV_str) (And.intro @ev_nilown @ev_len)))
def bW51 := (And.intro (And.intro (And.intro @lenV_some @ev_isl) (And.intro @ev_load1 @ev_loadn)) (And.intro (And.intro @loadV_one @loadV_agg) (And.intro @ev_store @kO_new)))
def bW52 := (And.intro (And.intro (And.intro @byteRows_length @bytesOf_byteRows) (And.intro @b2sV_some @binI_quo)) (And.intro (And.intro @binI_rem @kA_app) (And.intro @iarrV_i @ev_sarr)))
def bW53 := (And.intro (And.intro (And.intro @sarrV_i @sarrV_all) (And.intro @rowsOf_bsl @rowsB_box)) (And.intro (And.intro @bytesOf_one @rowsN_len) (And.intro @rowsZ_len @rowsO_nil)))
def bW54 := (And.intro (And.intro (And.intro @retV_fn @cutV_fnC) (And.intro @blO_nil @ARes_fn)) (And.intro (And.intro @ARes_nilf @ARes_nilp) (And.intro @ARes_fptr @ARes_nili)))
def bW55 := (And.intro (And.intro (And.intro @ARes_ifc @ARes_bot) (And.intro @ARes_ownT @ARes_ownA)) (And.intro (And.intro @AOps_mop @MS_mk) (And.intro @MS_get @mGetO_map)))
def bW56 := (And.intro (And.intro (And.intro @mGetP_st @mGetP_sf) (And.intro @mGetP_nt @mGetP_nf)) (And.intro (And.intro @MS_set @mSetO_map) (And.intro @mSetP_s @mSetP_n)))
def bW57 := (And.intro (And.intro (And.intro @MS_del @mDelO_map) (And.intro @MS_len @mLenO_map)) (And.intro (And.intro @MS_rng @mRngO_map) (And.intro @MS_nxt @mNxtO_iter)))
def bW58 := (And.intro (And.intro (And.intro @mNxtM_map @MS_ent) (And.intro @mEntO_iter @mEntM_map)) (And.intro (And.intro @entG @mEntE_some) (And.intro @ownL_mp @ownL_nilm)))
def bW59 := (And.intro (And.intro (And.intro @cutV_mp @cutV_nilm) (And.intro @cutO_iter @isCall_isn)) (And.intro (And.intro @ev_isn @isnV_p0) (And.intro @isnV_p1 @isnV_p2)))
def bW60 := (And.intro (And.intro (And.intro @isnV_p3 @isnV_i0) (And.intro @isnV_i1 @isnV_m0)) (And.intro (And.intro @isnV_m1 @keepB_n) (And.intro @keepB_a @keepR_nil)))
def bW61 := (And.intro (And.intro (And.intro @keepR_cons @AOps_rcall) (And.intro @kD_eq @AWP_dreg2)) (And.intro (And.intro @AWP_dregs @kT_eq) (And.intro @ATO_leaf @ATO_node)))
def bW62 := (And.intro (And.intro (And.intro @known_mp @cellsOf_mp) (And.intro @cell_mp @scal_mp)) (And.intro (And.intro @known_nilm @cellsOf_nilm) (And.intro @cell_nilm @scal_nilm)))
def bW63 := (And.intro (And.intro (And.intro @known_nili @cellsOf_nili) (And.intro @scal_nili @known_ifc)) (And.intro (And.intro @cellsOf_ifc @scal_ifc) (And.intro @known_nilf @cellsOf_nilf)))
def bW64 := (And.intro (And.intro (And.intro @cell_nilf @scal_nilf) (And.intro @known_fptr @cellsOf_fptr)) (And.intro (And.intro @cell_fptr @scal_fptr) (And.intro @known_lref @cellsOf_lref)))
def bW65 := (And.intro (And.intro (And.intro @cell_lref @scal_lref) (And.intro @scal_fn @scal_osl)) (And.intro (And.intro @isCall_arr @isCall_alit) (And.intro @ev_arr @arrV_len)))
def bW66 := (And.intro (And.intro (And.intro @arrV_len0 @arrV_cap) (And.intro @arrV_cap0 @arrV_ix)) (And.intro (And.intro @arrV_ixb @ixV_n) (And.intro @ixV_0 @arrV_sl)))
def bW67 := (And.intro (And.intro (And.intro @arrV_sl0 @asBnd_t) (And.intro @asBnd_f @nilB_0)) (And.intro (And.intro @arrV_nil1 @arrV_nil0) (And.intro @ev_alit @alitO_0)))
def bW68 := (And.intro (And.intro (And.intro @alitO_1 @alitO_2) (And.intro @ev_alitA @alitP_1)) (And.intro (And.intro @ownL_asl @cutV_asl) (And.intro @known_asl @cellsOf_asl)))
def bW69 := (And.intro (And.intro (And.intro @cell_asl @scal_asl) @AOps_ecall) (And.intro @AOps_rcalli @kJ_ifc))
def bA := And.intro (And.intro (@ne_eq.{1}) (And.intro (@implies_true.{0}) (@implies_true.{1}))) (And.intro (And.intro (And.intro (And.intro (And.intro (And.intro (And.intro @bP0 @bP1) @bP2) (And.intro @bP3 @bK0)) (And.intro (And.intro (And.intro @bK1 @bK2) @bK3) (And.intro @bW0 @bW1))) (And.intro (And.intro (And.intro (And.intro @bW2 @bW3) @bW4) (And.intro @bW5 @bW6)) (And.intro (And.intro (And.intro @bW7 @bW8) @bW9) (And.intro @bW10 @bW11)))) (And.intro (And.intro (And.intro (And.intro (And.intro @bW12 @bW13) @bW14) (And.intro @bW15 @bW16)) (And.intro (And.intro (And.intro @bW17 @bW18) @bW19) (And.intro @bW20 @bW21))) (And.intro (And.intro (And.intro (And.intro @bW22 @bW23) @bW24) (And.intro @bW25 @bW26)) (And.intro (And.intro @bW27 @bW28) (And.intro @bW29 @bW30))))) (And.intro (And.intro (And.intro (And.intro (And.intro (And.intro @bW31 @bW32) @bW33) (And.intro @bW34 @bW35)) (And.intro (And.intro (And.intro @bW36 @bW37) @bW38) (And.intro @bW39 @bW40))) (And.intro (And.intro (And.intro (And.intro @bW41 @bW42) @bW43) (And.intro @bW44 @bW45)) (And.intro (And.intro (And.intro @bW46 @bW47) @bW48) (And.intro @bW49 @bW50)))) (And.intro (And.intro (And.intro (And.intro (And.intro @bW51 @bW52) @bW53) (And.intro @bW54 @bW55)) (And.intro (And.intro (And.intro @bW56 @bW57) @bW58) (And.intro @bW59 @bW60))) (And.intro (And.intro (And.intro (And.intro @bW61 @bW62) @bW63) (And.intro @bW64 @bW65)) (And.intro (And.intro @bW66 @bW67) (And.intro @bW68 @bW69))))))
end Go.Proofs.YtdgpiobmncohjaaGreatDoor.Aw
