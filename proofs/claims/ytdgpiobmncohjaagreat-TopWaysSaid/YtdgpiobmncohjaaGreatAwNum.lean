/-
  Numbers and bytes in a walk.
-/
import Derived.Test.YtdgpiobmncohjaaGreatAwSimp2
namespace Go.Proofs.YtdgpiobmncohjaaGreat.Aw
open Go.RowKit

theorem wrap8 (n : Int) : IntKind.u8.wrap n = n % 256 := by
  have e : (2 : Int) ^ 8 = 256 := by decide
  simp only [IntKind.wrap, IntKind.bits, IntKind.signed, Bool.false_and, e]; rfl
theorem wrap64 (n : Int) : IntKind.u64.wrap n = n % 18446744073709551616 := by
  have e : (2 : Int) ^ 64 = 18446744073709551616 := by decide
  simp only [IntKind.wrap, IntKind.bits, IntKind.signed, Bool.false_and, e]; rfl
/-- Rows made of things. -/
theorem islV_map {α : Type} {ob fb k} {g : α → List PV} {l : List α} {e n : Nat} (h : n < l.length) (he : (g l[n]).length = e) : islV ob fb e (.slc (l.map g)) (.int k (n : Int)) = some (.fptr (g l[n])) := by
  rw [islV_slc (by simpa using h) (by simpa using he)]; simp
theorem app_map {α : Type} {ob fb nw o n e} {g : α → List PV} {l m : List α} (hf : fb.contains o = false) (ho : ob[o]? = some (.list e (l.map g))) (h1 : n = l.length) (h2 : l.length ≤ 16777216) (hm : m.length ≤ 16777216) (hg : ∀ y, (g y).length = e) :
    appO ob fb nw e (.osl o 0 n) (some (m.map g)) = some (.osl o 0 (n + m.length), ob.set o (.list e ((l ++ m).map g))) := by
  rw [appO_osl hf ho (by simp [h1]) (by simpa using h2) (rowsOk_map hg m) (by simpa using hm)]; simp
/-- Numbers of one kind. -/
def rowsN (k : IntKind) (l : List Nat) : List (List PV) := l.map fun n : Nat => [PV.int k (n : Int)]
def rowsZ (k : IntKind) (l : List Int) : List (List PV) := l.map fun n : Int => [PV.int k n]
theorem rowsN_len {k l} : (rowsN k l).length = l.length := by simp [rowsN]
theorem rowsZ_len {k l} : (rowsZ k l).length = l.length := by simp [rowsZ]
theorem rowsN_nil {k} : rowsN k [] = [] := rfl
theorem islV_N {ob fb k k'} {l : List Nat} {n : Nat} (h : n < l.length) : islV ob fb 1 (.slc (rowsN k' l)) (.int k (n : Int)) = some (.fptr [.int k' (l[n] : Int)]) := islV_map (g := fun n : Nat => [PV.int k' (n : Int)]) h rfl
theorem islV_Z {ob fb k k'} {l : List Int} {n : Nat} (h : n < l.length) : islV ob fb 1 (.slc (rowsZ k' l)) (.int k (n : Int)) = some (.fptr [.int k' l[n]]) := islV_map (g := fun n : Int => [PV.int k' n]) h rfl
theorem app_N {ob fb nw o n k} {l : List Nat} {x : Nat} (hf : fb.contains o = false) (ho : ob[o]? = some (.list 1 (rowsN k l))) (h1 : n = l.length) (h2 : l.length ≤ 16777216) :
    appO ob fb nw 1 (.osl o 0 n) (some [[.int k (x : Int)]]) = some (.osl o 0 (n + 1), ob.set o (.list 1 (rowsN k (l ++ [x])))) :=
  app_map (g := fun n : Nat => [PV.int k (n : Int)]) (m := [x]) hf ho h1 h2 (by simp) fun _ => rfl
theorem rowsO_nil {e} : rowsO (some (.list e [])) 0 0 = some [] := by simp [rowsO]
theorem retV_fn {f ob g a b} : retV ⟨f, ob⟩ (.fn g a b) = fnS g (snapL ob [] a) (snapL ob [] b) := by
  simp only [retV, snap, fnS]
  cases snapL ob [] a <;> cases snapL ob [] b <;> rfl
theorem cutV_fnC {n f cap} (h : undL n cap = true) : cutV n (.fn f [] cap) = .fn f [] cap := by simp [cutV, PV.und, undL, h]
theorem blO_nil {k} : blO (some []) k = k [] := blO_ok rfl
theorem ARes_fn {own nw d K s f a b} : ARes own nw d K (.fn f a b) s = K (s.put d (.fn f a b) s.ob) := nr rfl
theorem ARes_nilf {own nw d K s } : ARes own nw d K .nilf s = K (s.put d .nilf s.ob) := nr rfl
theorem ARes_nilp {own nw d K s } : ARes own nw d K .nilp s = K (s.put d .nilp s.ob) := nr rfl
theorem ARes_fptr {own nw d K s f} : ARes own nw d K (.fptr f) s = K (s.put d (.fptr f) s.ob) := nr rfl
theorem ARes_nili {own nw d K s } : ARes own nw d K .nili s = K (s.put d .nili s.ob) := nr rfl
theorem ARes_ifc {own nw d K s f a} : ARes own nw d K (.ifc f a) s = K (s.put d (.ifc f a) s.ob) := nr rfl
theorem ARes_bot {own nw d K s } : ARes own nw d K .bot s = K (s.put d .bot s.ob) := nr rfl
theorem ARes_ownT {d K f ob e rows} : ARes true none d K (.own e rows) ⟨f, ob⟩ = K (St.put ⟨f, ob⟩ d (.osl ob.length 0 rows.length) (ob ++ [.list e rows])) := nr rfl
theorem ARes_ownA {d K f ob e rows p} (h : ob[p]? = some .none) : ARes true (some p) d K (.own e rows) ⟨f, ob⟩ = K (St.put ⟨f, ob⟩ d (.osl p 0 rows.length) (ob.set p (.list e rows))) := by
  simp only [ARes, mkO, h, if_true]
/-- Own lists made of things. -/
theorem islO_map {α : Type} {g : α → List PV} {l : List α} {e o m k} {i : Nat} (hm : m = l.length) (h : i < l.length) : islO (some (.list e (l.map g))) e o 0 m (.int k (i : Int)) = some (.lref o i 0 m) := by
  rw [islO_at (by simpa using hm) (by simpa using h)]; simp [hm]
theorem ldL_map {α : Type} {g : α → List PV} {l : List α} {e len off n} {i : Nat} (hl : len = l.length) (h : i < l.length) (hn : off + n ≤ (g l[i]).length) : ldL (some (.list e (l.map g))) i off len n = some (((g l[i]).drop off).take n) := by
  rw [ldL_at (by simp [hl]) (by simpa using h) (by simpa using hn)]; simp
theorem stL_map {α : Type} {g : α → List PV} {l : List α} {ob o e len off} {i : Nat} {vs : List PV} {x : α} (hl : len = l.length) (h : i < l.length) (hn : off + vs.length ≤ (g l[i]).length) (hx : setAt (g l[i]) off vs = g x) :
    stL ob o (some (.list e (l.map g))) i off len vs = some (.bot, ob.set o (.list e ((l.set i x).map g))) := by
  rw [stL_at (by simp [hl]) (by simpa using h) (by simpa using hn)]
  congr 3
  rw [List.getElem_map, hx, List.map_set]
/- kinds of values -/
theorem known_mp {o} : PV.known (.mp o) = true := nr rfl
theorem cellsOf_mp {o} : PV.cellsOf (.mp o) = [(.mp o)] := nr rfl
theorem cell_mp {o} : PV.cell? (.mp o) = true := nr rfl
theorem scal_mp {o} : PV.scal (.mp o) = true := nr rfl
theorem known_nilm  : PV.known .nilm = true := nr rfl
theorem cellsOf_nilm  : PV.cellsOf .nilm = [.nilm] := nr rfl
theorem cell_nilm  : PV.cell? .nilm = true := nr rfl
theorem scal_nilm  : PV.scal .nilm = true := nr rfl
theorem known_nili  : PV.known .nili = true := nr rfl
theorem cellsOf_nili  : PV.cellsOf .nili = [.nili] := nr rfl
theorem scal_nili  : PV.scal .nili = true := nr rfl
theorem known_ifc {t p} : PV.known (.ifc t p) = true := nr rfl
theorem cellsOf_ifc {t p} : PV.cellsOf (.ifc t p) = [(.ifc t p)] := nr rfl
theorem scal_ifc {t p} : PV.scal (.ifc t p) = true := nr rfl
theorem known_nilf  : PV.known .nilf = true := nr rfl
theorem cellsOf_nilf  : PV.cellsOf .nilf = [.nilf] := nr rfl
theorem cell_nilf  : PV.cell? .nilf = true := nr rfl
theorem scal_nilf  : PV.scal .nilf = true := nr rfl
theorem known_fptr {c} : PV.known (.fptr c) = true := nr rfl
theorem cellsOf_fptr {c} : PV.cellsOf (.fptr c) = [(.fptr c)] := nr rfl
theorem cell_fptr {c} : PV.cell? (.fptr c) = true := nr rfl
theorem scal_fptr {c} : PV.scal (.fptr c) = true := nr rfl
theorem known_lref {o i a b} : PV.known (.lref o i a b) = true := nr rfl
theorem cellsOf_lref {o i a b} : PV.cellsOf (.lref o i a b) = [(.lref o i a b)] := nr rfl
theorem cell_lref {o i a b} : PV.cell? (.lref o i a b) = true := nr rfl
theorem scal_lref {o i a b} : PV.scal (.lref o i a b) = false := nr rfl
theorem scal_fn {f a b} : PV.scal (.fn f a b) = true := nr rfl
theorem scal_osl {o i n} : PV.scal (.osl o i n) = false := nr rfl
/- nil or not -/
def isnV (k : NK) (neg : Bool) (p : PV) : Option PV := (isNil? k p).map fun b => .bool (if neg then !b else b)
theorem ev_isn {fb nw f ob k neg x} : ev fb nw ⟨f, ob⟩ (.isn k neg x) = tag ob (isnV k neg (St.val ⟨f, ob⟩ x)) := by
  simp only [ev, isnV, tag, Option.map_map]; rfl
theorem isnV_p0 {neg} : isnV .p neg .nilp = some (.bool (!neg)) := by cases neg <;> rfl
theorem isnV_p1 {neg o i} : isnV .p neg (.ref o i) = some (.bool neg) := by cases neg <;> rfl
theorem isnV_p2 {neg o i a b} : isnV .p neg (.lref o i a b) = some (.bool neg) := by cases neg <;> rfl
theorem isnV_p3 {neg c} : isnV .p neg (.fptr c) = some (.bool neg) := by cases neg <;> rfl
theorem isnV_i0 {neg} : isnV .i neg .nili = some (.bool (!neg)) := by cases neg <;> rfl
theorem isnV_i1 {neg t p} : isnV .i neg (.ifc t p) = some (.bool neg) := by cases neg <;> rfl
theorem isnV_m0 {neg} : isnV .m neg .nilm = some (.bool (!neg)) := by cases neg <;> rfl
theorem isnV_m1 {neg o} : isnV .m neg (.mp o) = some (.bool neg) := by cases neg <;> rfl
/- maps -/
theorem AOps_mop {P bs K d m args nw fb tg os f ob} : AOps P bs (⟨d, .mop m args, none, nw, fb, tg⟩ :: os) K ⟨f, ob⟩ = MStep m (args.map (St.val ⟨f, ob⟩)) ob (kA P bs os K f d) := nr (by cases d <;> rfl)
theorem MS_mk {ob K} : MStep .mk [] ob K = K (.mp ob.length) (ob ++ [.map 0 []]) := nr rfl
theorem MS_get {ok z o k ob K} : MStep (.get ok z) [.mp o, .int .i64 k] ob K = mGetO ok z k ob[o]? ob K := nr rfl
theorem mGetO_map {ok z k c es ob K} : mGetO ok z k (some (.map c es)) ob K = mGetP ok z (mGet k es) ob K := nr rfl
theorem mGetP_st {z p ob K} : mGetP true z (some p) ob K = K (.tup [p, .bool true]) ob := nr rfl
theorem mGetP_sf {z p ob K} : mGetP false z (some p) ob K = K p ob := nr rfl
theorem mGetP_nt {z ob K} : mGetP true z none ob K = K (.tup [z, .bool false]) ob := nr rfl
theorem mGetP_nf {z ob K} : mGetP false z none ob K = K z ob := nr rfl
theorem MS_set {o k v ob K} : MStep .set [.mp o, .int .i64 k, v] ob K = mSetO o k v ob[o]? ob K := nr rfl
theorem mSetO_map {o k v c es ob K} : mSetO o k v (some (.map c es)) ob K = mSetP o c k v es (mGet k es) ob K := nr rfl
theorem mSetP_s {o c k v es p ob K} : mSetP o c k v es (some p) ob K = K .bot (ob.set o (.map c (mSet k v es))) := nr rfl
theorem mSetP_n {o c k v es ob K} : mSetP o c k v es none ob K = K .bot (ob.set o (.map (c + 1) (es ++ [(c, k, v)]))) := nr rfl
theorem MS_del {o k ob K} : MStep .del [.mp o, .int .i64 k] ob K = mDelO o k ob[o]? ob K := nr rfl
theorem mDelO_map {o k c es ob K} : mDelO o k (some (.map c es)) ob K = K (.tup []) (ob.set o (.map c (mDel k es))) := nr rfl
theorem MS_len {o ob K} : MStep .len [.mp o] ob K = mLenO ob[o]? ob K := nr rfl
theorem mLenO_map {c es ob K} : mLenO (some (.map c es)) ob K = K (.int .i64 es.length) ob := nr rfl
theorem MS_rng {o ob K} : MStep .rng [.mp o] ob K = mRngO o ob[o]? ob K := nr rfl
theorem mRngO_map {o c es ob K} : mRngO o (some (.map c es)) ob K = K (.ref ob.length 0) (ob ++ [.iter o c [] c]) := nr rfl
theorem MS_nxt {o ob K} : MStep .nxt [.ref o 0] ob K = mNxtO o ob[o]? ob K := nr rfl
theorem mNxtO_iter {o m a b d ob K} : mNxtO o (some (.iter m a b d)) ob K = mNxtM o m a b d ob[m]? ob K := nr rfl
theorem mNxtM_map {o m a b d c es ob K} : mNxtM o m a b d (some (.map c es)) ob K = mNxtP o m a b d c es ob K := nr rfl
theorem MS_ent {o ob K} : MStep .ent [.ref o 0] ob K = mEntO ob[o]? ob K := nr rfl
theorem mEntO_iter {m a b d ob K} : mEntO (some (.iter m a b d)) ob K = mEntM b d ob[m]? ob K := nr rfl
theorem mEntM_map {b c es ob K} : mEntM b c (some (.map c es)) ob K = mEntE (b.getLast?.bind fun b => es.find? fun e => e.1 == b) ob K := nr (by simp only [mEntM, true_and])
theorem entG {l : List Nat} {x : Nat} {f : Nat → Option (Nat × Int × PV)} : (l ++ [x]).getLast?.bind f = f x := by simp
theorem mEntE_some {e ob K} : mEntE (some e) ob K = K (.tup [.int .i64 e.2.1, e.2.2]) ob := nr rfl
theorem ownL_mp {o r} : ownL (.mp o :: r) = true := by simp [ownL, PV.own?]
theorem ownL_nilm {r} : ownL (.nilm :: r) = ownL r := by simp [ownL, PV.own?]
theorem cutV_mp {n o} (h : o < n) : cutV n (.mp o) = .mp o := by simp [cutV, PV.und, h]
theorem cutV_nilm {n} : cutV n .nilm = .nilm := by simp [cutV, PV.und]
theorem cutO_iter {n m a b d} (h : m < n) : cutO n (.iter m a b d) = .iter m a b d := by simp [cutO, h]
/- from what a part of the code is, how it is walked -/
theorem mU {a b : AC} (h : a = b) {P bb Q f ob} : AWP P bb a Q ⟨f, ob⟩ = AWP P bb b Q ⟨f, ob⟩ := by rw [h]
theorem mR {a : AC} {l : List AOp} (h : a = .reg l) {P bb Q f ob} : AWP P bb a Q ⟨f, ob⟩ = AOps P ob.length l (Q .n) ⟨f, ob⟩ := by rw [h, AWP_reg]
theorem mD {a : AC} {m : Nat} {l : List AOp} (h : a = .dreg m l) {P bb Q f ob} : AWP P bb a Q ⟨f, ob⟩ = AOps P ob.length l (Q .n) ⟨f, ob ++ List.replicate m .none⟩ := by rw [h, AWP_dreg]
/- slices over boxes -/
theorem isCall_arr {op xs} : AO.isCall (.arr op xs) = false := nr rfl
theorem isCall_alit {z n ps} : AO.isCall (.alit z n ps) = false := nr rfl
theorem ev_arr {fb nw f ob op xs} : ev fb nw ⟨f, ob⟩ (.arr op xs) = tag ob (arrV op (xs.map (St.val ⟨f, ob⟩))) := nr rfl
theorem arrV_len {o off n c} : arrV .len [.asl o off n c] = some (.int .i64 n) := nr rfl
theorem arrV_len0 : arrV .len [.nils] = some (.int .i64 0) := nr rfl
theorem arrV_cap {o off n c} : arrV .cap [.asl o off n c] = some (.int .i64 c) := nr rfl
theorem arrV_cap0 : arrV .cap [.nils] = some (.int .i64 0) := nr rfl
def ixV (e o off n : Nat) (i : Int) : Option PV := if (decide (0 ≤ i) && decide (i < (n : Int))) = true then some (.ref o (off + i.toNat * e)) else none
theorem arrV_ix {e o off n c k i} : arrV (.ix e) [.asl o off n c, .int k i] = ixV e o off n i := by
  simp only [arrV, ixV, Bool.and_eq_true, decide_eq_true_eq]
theorem ixV_n {e o off n} {i : Nat} (h : decide (i < n) = true) : ixV e o off n (i : Int) = some (.ref o (off + i * e)) := by
  have h := of_decide_eq_true h
  rw [ixV, if_pos (by simp; omega)]; rfl
theorem ixV_0 {e o off n} (h : decide (0 < n) = true) : ixV e o off n 0 = some (.ref o off) := by
  have h := of_decide_eq_true h
  rw [ixV, if_pos (by simp; omega)]; simp
theorem arrV_sl {e bl bh bm o off n c lo hi mx} : arrV (.sl e bl bh bm) [.asl o off n c, lo, hi, mx] = aslB e o off n c (asBnd bl lo 0) (asBnd bh hi n) (asBnd bm mx c) := nr rfl
theorem arrV_sl0 {e bl bh bm lo hi mx} : arrV (.sl e bl bh bm) [.nils, lo, hi, mx] = nilB (asBnd bl lo 0) (asBnd bh hi 0) (asBnd bm mx 0) := nr rfl
theorem asBnd_t {k n d} : asBnd true (.int k n) d = some n := nr rfl
theorem asBnd_f {p d} : asBnd false p d = some d := nr rfl
theorem nilB_0 : nilB (some 0) (some 0) (some 0) = some .nils := nr rfl
theorem aslB_n {e o off n c} {l h m : Nat} (hh : l ≤ h ∧ h ≤ m ∧ m ≤ c) : aslB e o off n c (some (l : Int)) (some (h : Int)) (some (m : Int)) = some (.asl o (off + l * e) (h - l) (m - l)) := by
  have e1 : ((h : Int) - (l : Int)).toNat = h - l := by omega
  have e2 : ((m : Int) - (l : Int)).toNat = m - l := by omega
  simp only [aslB, e1, e2, Int.toNat_natCast]
  rw [if_pos (by omega)]
theorem aslB_z {e o off n c} {h m : Nat} (hh : h ≤ m ∧ m ≤ c) : aslB e o off n c (some 0) (some (h : Int)) (some (m : Int)) = some (.asl o off h m) := by
  have := aslB_n (e := e) (o := o) (off := off) (n := n) (c := c) (l := 0) (h := h) (m := m) (by omega)
  simpa using this
theorem arrV_nil1 {neg o off n c} : arrV (.isnil neg) [.asl o off n c] = some (.bool neg) := nr rfl
theorem arrV_nil0 {neg} : arrV (.isnil neg) [.nils] = some (.bool (!neg)) := nr rfl
def alitO (rows : Option (List (List PV))) (ob : List AObj) : Option (PV × List AObj) :=
  match rows with
  | some [] => newO ob (.box []) fun o => .asl o 0 0 0
  | some [r] => if r.all PV.cell? = true then newO ob (.box r) fun o => .asl o 0 1 1 else none
  | some [r, r'] => if (r.all PV.cell? && r'.all PV.cell?) = true then newO ob (.box (r ++ r')) fun o => .asl o 0 2 2 else none
  | some rows => if rows.flatten.all PV.cell? = true then newO ob (.box rows.flatten) fun o => .asl o 0 rows.length rows.length else none
  | none => none
theorem ev_alit {fb f ob z n ps} : ev fb none ⟨f, ob⟩ (.alit z n ps) = alitO (fillR ⟨f, ob⟩ z.length (List.replicate n z) ps) ob := by
  simp only [ev]
  cases fillR ⟨f, ob⟩ z.length (List.replicate n z) ps with
  | none => rfl
  | some rows =>
    rcases rows with _ | ⟨r, _ | ⟨r', _ | ⟨r2, rs⟩⟩⟩
    · rfl
    · simp only [Option.bind_some, alitO, List.flatten_cons, List.flatten_nil, List.append_nil]; rfl
    · simp only [Option.bind_some, alitO, List.flatten_cons, List.flatten_nil, List.append_nil, List.all_append]; rfl
    · rfl
theorem alitO_0 {ob} : alitO (some []) ob = some (.asl ob.length 0 0 0, ob ++ [.box []]) := nr rfl
theorem alitO_1 {ob r} (h : r.all PV.cell? = true) : alitO (some [r]) ob = some (.asl ob.length 0 1 1, ob ++ [.box r]) := by simp only [alitO, h, if_true, newO]
theorem alitO_2 {ob r r'} (h : (r.all PV.cell? && r'.all PV.cell?) = true) : alitO (some [r, r']) ob = some (.asl ob.length 0 2 2, ob ++ [.box (r ++ r')]) := by simp only [alitO, h, if_true, newO]
def alitP (rows : Option (List (List PV))) (ob : List AObj) (p : Nat) : Option (PV × List AObj) :=
  match rows with
  | some [] => newAt ob p (.box []) (.asl p 0 0 0)
  | some [r] => if r.all PV.cell? = true then newAt ob p (.box r) (.asl p 0 1 1) else none
  | some [r, r'] => if (r.all PV.cell? && r'.all PV.cell?) = true then newAt ob p (.box (r ++ r')) (.asl p 0 2 2) else none
  | some rows => if rows.flatten.all PV.cell? = true then newAt ob p (.box rows.flatten) (.asl p 0 rows.length rows.length) else none
  | none => none
theorem ev_alitA {fb f ob z n ps p} : ev fb (some p) ⟨f, ob⟩ (.alit z n ps) = alitP (fillR ⟨f, ob⟩ z.length (List.replicate n z) ps) ob p := by
  simp only [ev]
  cases fillR ⟨f, ob⟩ z.length (List.replicate n z) ps with
  | none => rfl
  | some rows =>
    have key : ∀ (cs : List PV) (k : Nat → PV), (mkO ⟨f, ob⟩ (some p) (.box cs)).map (fun (o, ob) => (k o, ob)) = newAt ob p (.box cs) (k p) := fun cs k => mk_some (k := k)
    rcases rows with _ | ⟨r, _ | ⟨r', _ | ⟨r2, rs⟩⟩⟩
    · simp only [Option.bind_some, alitP, List.flatten_nil, List.all_nil, if_true]; exact key [] fun o => .asl o 0 0 0
    · simp only [Option.bind_some, alitP, List.flatten_cons, List.flatten_nil, List.append_nil]
      split
      · exact key r fun o => .asl o 0 1 1
      · rfl
    · simp only [Option.bind_some, alitP, List.flatten_cons, List.flatten_nil, List.append_nil, List.all_append]
      split
      · exact key (r ++ r') fun o => .asl o 0 2 2
      · rfl
    · simp only [Option.bind_some, alitP]
      split
      · exact key _ fun o => .asl o 0 (r :: r' :: r2 :: rs).length (r :: r' :: r2 :: rs).length
      · rfl
theorem alitP_1 {ob r p} (h : r.all PV.cell? = true) : alitP (some [r]) ob p = newAt ob p (.box r) (.asl p 0 1 1) := by simp only [alitP, h, if_true]
theorem ownL_asl {o a b c r} : ownL (.asl o a b c :: r) = true := by simp [ownL, PV.own?]
theorem cutV_asl {n o a b c} (h : o < n) : cutV n (.asl o a b c) = .asl o a b c := by simp [cutV, PV.und, h]
theorem known_asl {o a b c} : PV.known (.asl o a b c) = true := nr rfl
theorem cellsOf_asl {o a b c} : PV.cellsOf (.asl o a b c) = [.asl o a b c] := nr rfl
theorem cell_asl {o a b c} : PV.cell? (.asl o a b c) = true := nr rfl
theorem scal_asl {o a b c} : PV.scal (.asl o a b c) = false := nr rfl
theorem AOps_ecall {P bs K d fn args nw fb tg os f ob} : AOps P bs (⟨d, .ecall fn args, none, nw, fb, tg⟩ :: os) K ⟨f, ob⟩ = ECall P fn (args.map (St.val ⟨f, ob⟩)) ob (kA P bs os K f d) := nr (by cases d <;> rfl)
def kJ (P : Program) (nm : String) (v : PV) (args : List PV) (ob : List AObj) (K : PV → List AObj → Prop) : Prop :=
  match v with
  | .ifc t p => ∃ f, MethOk P t nm f ∧ ∃ r, RCall P f (p :: args) ob r ∧ K r ob
  | _ => False
theorem kJ_ifc {P nm t p args ob K} : kJ P nm (.ifc t p) args ob K = ∃ f, MethOk P t nm f ∧ ∃ r, RCall P f (p :: args) ob r ∧ K r ob := nr rfl
theorem callJ {P : Program} {t : TypeId} {nm : String} {f : Nat} {ps : List PV} {ob : List AObj} {r : PV} {K : PV → Prop} (hm : MethOk P t nm f) (h : RCall P f ps ob r) (hk : K r) : ∃ f, MethOk P t nm f ∧ ∃ r, RCall P f ps ob r ∧ K r := ⟨f, hm, r, h, hk⟩
theorem AOps_rcalli {P bs K d nm x args nw fb tg os f ob} : AOps P bs (⟨d, .rcalli nm x args, none, nw, fb, tg⟩ :: os) K ⟨f, ob⟩ = kJ P nm (St.val ⟨f, ob⟩ x) (args.map (St.val ⟨f, ob⟩)) ob (kA P bs os K f d) := by
  simp only [AOps, AStep, AExec, kJ]
  generalize St.val ⟨f, ob⟩ x = v
  cases v <;> first | rfl | (cases d <;> rfl)
end Go.Proofs.YtdgpiobmncohjaaGreat.Aw
