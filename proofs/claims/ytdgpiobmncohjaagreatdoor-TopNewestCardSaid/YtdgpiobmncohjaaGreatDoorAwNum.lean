/-
  Numbers and bytes in a walk.
-/
import Derived.Test.YtdgpiobmncohjaaGreatDoorAwSimp2
namespace Go.Proofs.YtdgpiobmncohjaaGreatDoor.Aw
open Go.RowKit

theorem wrap8 (n : Int) : IntKind.u8.wrap n = n % 256 := by
  have e : (2 : Int) ^ 8 = 256 := by decide
  simp only [IntKind.wrap, IntKind.bits, IntKind.signed, Bool.false_and, e]; rfl
theorem wrap64 (n : Int) : IntKind.u64.wrap n = n % 18446744073709551616 := by
  have e : (2 : Int) ^ 64 = 18446744073709551616 := by decide
  simp only [IntKind.wrap, IntKind.bits, IntKind.signed, Bool.false_and, e]; rfl
theorem wrapI64 (n : Int) : IntKind.i64.wrap n = Int.bmod n 18446744073709551616 := by
  have e : (2 : Int) ^ 64 = 18446744073709551616 := by decide
  have e' : (2 : Int) ^ (64 - 1) = 9223372036854775808 := by decide
  simp only [IntKind.wrap, IntKind.bits, IntKind.signed, Bool.true_and, decide_eq_true_eq, e, e', Int.bmod]
  have : ((18446744073709551616 : Nat) : Int) = 18446744073709551616 := rfl
  rw [this]
  by_cases h : n % 18446744073709551616 < (18446744073709551616 + 1) / 2
  · rw [if_pos h, if_neg (by omega)]
  · rw [if_neg h, if_pos (by omega)]
theorem ofInt8 (x : UInt8) : BitVec.ofInt 8 (x.toNat : Int) = x.toBitVec := by
  rw [BitVec.ofInt_natCast]; simp
theorem xor8 (a b : UInt8) : binI .xor .u8 (a.toNat : Int) (b.toNat : Int) = some (.int .u8 ((a ^^^ b).toNat : Int)) := by
  have h3 : (a ^^^ b).toNat < 256 := (a ^^^ b).toBitVec.isLt
  have h : binI .xor .u8 (a.toNat : Int) (b.toNat : Int) = some (.int .u8 (IntKind.u8.wrap ((BitVec.ofInt 8 (a.toNat : Int) ^^^ BitVec.ofInt 8 (b.toNat : Int)).toNat : Int))) := rfl
  rw [h, ofInt8, ofInt8, wrap8, show (a.toBitVec ^^^ b.toBitVec).toNat = (a ^^^ b).toNat from rfl, Int.emod_eq_of_lt (by omega) (by omega)]
theorem byteRows_app (l m : List UInt8) : byteRows l ++ byteRows m = byteRows (l ++ m) := by simp [byteRows]
theorem byteRows_one (b : UInt8) : [[PV.int .u8 (b.toNat : Int)]] = byteRows [b] := by simp [byteRows]
theorem byteRows_nil : ([] : List (List PV)) = byteRows [] := rfl
theorem rowsOk_bytes {l} : rowsOk 1 (byteRows l) = true := rowsOk_iff.2 (byteRows_len l)
theorem rowsO_bytes {l : List UInt8} {n : Nat} (h : n = l.length) : rowsO (some (.list 1 (byteRows l))) 0 n = some (byteRows l) := by simp [rowsO, h, byteRows]
/-- One byte is appended. -/
theorem app_byte {ob : List AObj} {fb nw o n} {l : List UInt8} {b : UInt8} (hf : fb.contains o = false) (ho : ob[o]? = some (.list 1 (byteRows l))) (h1 : n = l.length) (h2 : l.length ≤ 16777216) :
    appO ob fb nw 1 (.osl o 0 n) (some [[PV.int .u8 (b.toNat : Int)]]) = some (.osl o 0 (n + 1), ob.set o (.list 1 (byteRows (l ++ [b])))) := by
  rw [byteRows_one, appO_osl hf ho (by simp [h1, byteRows]) (by simpa [byteRows] using h2) rowsOk_bytes (by simp [byteRows]), byteRows_app, byteRows_length]; rfl
theorem byteRows_getI {l : List UInt8} {i : Nat} (h : i < l.length) : (byteRows l)[i]? = some [.int .u8 (l[i].toNat : Int)] := by simp [byteRows, h]
theorem islO_bytes {l : List UInt8} {o m k} {i : Nat} (hm : m = l.length) (h : i < l.length) : islO (some (.list 1 (byteRows l))) 1 o 0 m (.int k (i : Int)) = some (.lref o i 0 m) := by
  rw [islO_at (by rw [hm, byteRows_length]) (by rw [byteRows_length]; exact h), byteRows_length, hm]
theorem ldL_bytes {l : List UInt8} {i len} (hl : len = l.length) (h : i < l.length) : ldL (some (.list 1 (byteRows l))) i 0 len 1 = some [.int .u8 (l[i].toNat : Int)] := by
  simp only [ldL, byteRows_length, hl, if_true, byteRows_getI h]; rfl
theorem stL_bytes {ob o} {l : List UInt8} {i len} {b : UInt8} (hl : len = l.length) (h : i < l.length) : stL ob o (some (.list 1 (byteRows l))) i 0 len [.int .u8 (b.toNat : Int)] = some (.bot, ob.set o (.list 1 (byteRows (l.set i b)))) := by
  simp only [stL, byteRows_length, hl, if_true, byteRows_getI h]
  rw [← byteRows_set]; rfl
theorem shr8N (b : UInt8) (n : Nat) : shI .shr .u8 (b.toNat : Int) (n : Int) = some (.int .u8 ((b.toNat >>> n : Nat) : Int)) := by
  have e : (b.toNat : Int).fdiv (2 ^ min n 8) = ((b.toNat >>> n : Nat) : Int) := by
    have hb : b.toNat < 2 ^ 8 := b.toBitVec.isLt
    rw [Int.fdiv_eq_ediv_of_nonneg _ (Int.le_of_lt (Int.pow_pos (by decide)))]
    by_cases hk : n ≤ 8
    · rw [Nat.min_eq_left hk, Nat.shiftRight_eq_div_pow]; simp
    · rw [Nat.min_eq_right (by omega), Nat.shiftRight_eq_div_pow, Nat.div_eq_of_lt (Nat.lt_of_lt_of_le hb (Nat.pow_le_pow_right (by decide) (by omega)))]
      have : ((b.toNat : Int) / 2 ^ 8) = ((b.toNat / 2 ^ 8 : Nat) : Int) := by simp
      rw [this, Nat.div_eq_of_lt hb]
  simp only [shI, IntKind.bits]
  rw [if_neg (by omega), Int.toNat_natCast, e]
theorem shr128 (n : Nat) (h : n < 8) : shI .shr .u8 128 (n : Int) = some (.int .u8 ((((128 : UInt8) >>> UInt8.ofNat n).toNat : Nat) : Int)) := by
  have e : (128 : Int) = (((128 : UInt8).toNat : Nat) : Int) := by decide
  rw [e, shr8N]
  have : ∀ n, n < 8 → (128 : UInt8).toNat >>> n = ((128 : UInt8) >>> UInt8.ofNat n).toNat := by decide
  rw [this n h]
theorem tdivN (a b : Nat) : (a : Int).tdiv (b : Int) = ((a / b : Nat) : Int) := by rw [Int.tdiv_eq_ediv_of_nonneg (by omega)]; simp
theorem tmodN (a b : Nat) : (a : Int).tmod (b : Int) = ((a % b : Nat) : Int) := by rw [Int.tmod_eq_emod_of_nonneg (by omega)]; simp
/-- Rows made of things. -/
theorem islV_map {α : Type} {ob fb k} {g : α → List PV} {l : List α} {e n : Nat} (h : n < l.length) (he : (g l[n]).length = e) : islV ob fb e (.slc (l.map g)) (.int k (n : Int)) = some (.fptr (g l[n])) := by
  rw [islV_slc (by simpa using h) (by simpa using he)]; simp
theorem app_map {α : Type} {ob fb nw o n e} {g : α → List PV} {l m : List α} (hf : fb.contains o = false) (ho : ob[o]? = some (.list e (l.map g))) (h1 : n = l.length) (h2 : l.length ≤ 16777216) (hm : m.length ≤ 16777216) (hg : ∀ y, (g y).length = e) :
    appO ob fb nw e (.osl o 0 n) (some (m.map g)) = some (.osl o 0 (n + m.length), ob.set o (.list e ((l ++ m).map g))) := by
  rw [appO_osl hf ho (by simp [h1]) (by simpa using h2) (rowsOk_map hg m) (by simpa using hm)]; simp
/-- Numbers of one kind. -/
def rowsN (k : IntKind) (l : List Nat) : List (List PV) := l.map fun n : Nat => [PV.int k (n : Int)]
def rowsZ (k : IntKind) (l : List Int) : List (List PV) := l.map fun n : Int => [PV.int k n]
theorem rowsN_len {k l} : (rowsN k l).length = l.length := by simp [rowsN]
theorem rowsZ_len {k l} : (rowsZ k l).length = l.length := by simp [rowsZ]
theorem rowsN_nil {k} : rowsN k [] = [] := rfl
theorem rowsZ_nil {k} : rowsZ k [] = [] := rfl
theorem rowsOk_N {k l} : rowsOk 1 (rowsN k l) = true := by simp [rowsN, rowsOk]
theorem rowsOk_Z {k l} : rowsOk 1 (rowsZ k l) = true := by simp [rowsZ, rowsOk]
theorem islV_N {ob fb k k'} {l : List Nat} {n : Nat} (h : n < l.length) : islV ob fb 1 (.slc (rowsN k' l)) (.int k (n : Int)) = some (.fptr [.int k' (l[n] : Int)]) := islV_map (g := fun n : Nat => [PV.int k' (n : Int)]) h rfl
theorem islV_Z {ob fb k k'} {l : List Int} {n : Nat} (h : n < l.length) : islV ob fb 1 (.slc (rowsZ k' l)) (.int k (n : Int)) = some (.fptr [.int k' l[n]]) := islV_map (g := fun n : Int => [PV.int k' n]) h rfl
theorem app_N {ob fb nw o n k} {l : List Nat} {x : Nat} (hf : fb.contains o = false) (ho : ob[o]? = some (.list 1 (rowsN k l))) (h1 : n = l.length) (h2 : l.length ≤ 16777216) :
    appO ob fb nw 1 (.osl o 0 n) (some [[.int k (x : Int)]]) = some (.osl o 0 (n + 1), ob.set o (.list 1 (rowsN k (l ++ [x])))) :=
  app_map (g := fun n : Nat => [PV.int k (n : Int)]) (m := [x]) hf ho h1 h2 (by simp) fun _ => rfl
theorem app_Ns {ob fb nw o n k} {l m : List Nat} (hf : fb.contains o = false) (ho : ob[o]? = some (.list 1 (rowsN k l))) (h1 : n = l.length) (h2 : l.length ≤ 16777216) (hm : m.length ≤ 16777216) :
    appO ob fb nw 1 (.osl o 0 n) (some (rowsN k m)) = some (.osl o 0 (n + m.length), ob.set o (.list 1 (rowsN k (l ++ m)))) :=
  app_map (g := fun n : Nat => [PV.int k (n : Int)]) hf ho h1 h2 hm fun _ => rfl
theorem rowsN_append {k l m} : rowsN k (l ++ m) = rowsN k l ++ rowsN k m := by simp [rowsN]
theorem rowsN_take {k l n} : (rowsN k l).take n = rowsN k (l.take n) := by simp [rowsN, List.map_take]
theorem rowsN_drop {k l n} : (rowsN k l).drop n = rowsN k (l.drop n) := by simp [rowsN, List.map_drop]
theorem rowsZ_take {k l n} : (rowsZ k l).take n = rowsZ k (l.take n) := by simp [rowsZ, List.map_take]
theorem rowsZ_drop {k l n} : (rowsZ k l).drop n = rowsZ k (l.drop n) := by simp [rowsZ, List.map_drop]
theorem rowsO_nil {e} : rowsO (some (.list e [])) 0 0 = some [] := by simp [rowsO]
theorem retV_fn {f ob g a b} : retV ⟨f, ob⟩ (.fn g a b) = fnS g (snapL ob [] a) (snapL ob [] b) := by
  simp only [retV, snap, fnS]
  cases snapL ob [] a <;> cases snapL ob [] b <;> rfl
theorem cutV_fnC {n f cap} (h : undL n cap = true) : cutV n (.fn f [] cap) = .fn f [] cap := by simp [cutV, PV.und, undL, h]
theorem blO_nil {k} : blO (some []) k = k [] := blO_ok rfl
theorem ARes_fn {own nw d K s f a b} : ARes own nw d K (.fn f a b) s = K (s.put d (.fn f a b) s.ob) := nr rfl
theorem ARes_nilf {own nw d K s } : ARes own nw d K .nilf s = K (s.put d .nilf s.ob) := nr rfl
theorem ARes_nilp {own nw d K s } : ARes own nw d K .nilp s = K (s.put d .nilp s.ob) := nr rfl
theorem ARes_fptr {own nw d K s f} : ARes own nw d K (.fptr f) s = K (s.put d (.fptr f) s.ob) := nr rfl
theorem ARes_nili {own nw d K s } : ARes own nw d K .nili s = K (s.put d .nili s.ob) := nr rfl
theorem ARes_ifc {own nw d K s f a} : ARes own nw d K (.ifc f a) s = K (s.put d (.ifc f a) s.ob) := nr rfl
theorem ARes_bot {own nw d K s } : ARes own nw d K .bot s = K (s.put d .bot s.ob) := nr rfl
theorem ARes_ownT {d K f ob e rows} : ARes true none d K (.own e rows) ⟨f, ob⟩ = K (St.put ⟨f, ob⟩ d (.osl ob.length 0 rows.length) (ob ++ [.list e rows])) := nr rfl
theorem ARes_ownA {d K f ob e rows p} (h : ob[p]? = some .none) : ARes true (some p) d K (.own e rows) ⟨f, ob⟩ = K (St.put ⟨f, ob⟩ d (.osl p 0 rows.length) (ob.set p (.list e rows))) := by
  simp only [ARes, mkO, h, if_true]
/-- Own lists made of things. -/
theorem islO_map {α : Type} {g : α → List PV} {l : List α} {e o m k} {i : Nat} (hm : m = l.length) (h : i < l.length) : islO (some (.list e (l.map g))) e o 0 m (.int k (i : Int)) = some (.lref o i 0 m) := by
  rw [islO_at (by simpa using hm) (by simpa using h)]; simp [hm]
theorem ldL_map {α : Type} {g : α → List PV} {l : List α} {e len off n} {i : Nat} (hl : len = l.length) (h : i < l.length) (hn : off + n ≤ (g l[i]).length) : ldL (some (.list e (l.map g))) i off len n = some (((g l[i]).drop off).take n) := by
  rw [ldL_at (by simp [hl]) (by simpa using h) (by simpa using hn)]; simp
theorem stL_map {α : Type} {g : α → List PV} {l : List α} {ob o e len off} {i : Nat} {vs : List PV} {x : α} (hl : len = l.length) (h : i < l.length) (hn : off + vs.length ≤ (g l[i]).length) (hx : setAt (g l[i]) off vs = g x) :
    stL ob o (some (.list e (l.map g))) i off len vs = some (.bot, ob.set o (.list e ((l.set i x).map g))) := by
  rw [stL_at (by simp [hl]) (by simpa using h) (by simpa using hn)]
  congr 3
  rw [List.getElem_map, hx, List.map_set]
theorem app_Z {ob fb nw o n k} {l : List Int} {x : Int} (hf : fb.contains o = false) (ho : ob[o]? = some (.list 1 (rowsZ k l))) (h1 : n = l.length) (h2 : l.length ≤ 16777216) :
    appO ob fb nw 1 (.osl o 0 n) (some [[.int k x]]) = some (.osl o 0 (n + 1), ob.set o (.list 1 (rowsZ k (l ++ [x])))) :=
  app_map (g := fun n : Int => [PV.int k n]) (m := [x]) hf ho h1 h2 (by simp) fun _ => rfl
theorem app_Zs {ob fb nw o n k} {l m : List Int} (hf : fb.contains o = false) (ho : ob[o]? = some (.list 1 (rowsZ k l))) (h1 : n = l.length) (h2 : l.length ≤ 16777216) (hm : m.length ≤ 16777216) :
    appO ob fb nw 1 (.osl o 0 n) (some (rowsZ k m)) = some (.osl o 0 (n + m.length), ob.set o (.list 1 (rowsZ k (l ++ m)))) :=
  app_map (g := fun n : Int => [PV.int k n]) hf ho h1 h2 hm fun _ => rfl
/- kinds of values -/
theorem known_mp {o} : PV.known (.mp o) = true := nr rfl
theorem cellsOf_mp {o} : PV.cellsOf (.mp o) = [(.mp o)] := nr rfl
theorem cell_mp {o} : PV.cell? (.mp o) = true := nr rfl
theorem scal_mp {o} : PV.scal (.mp o) = true := nr rfl
theorem known_nilm  : PV.known .nilm = true := nr rfl
theorem cellsOf_nilm  : PV.cellsOf .nilm = [.nilm] := nr rfl
theorem cell_nilm  : PV.cell? .nilm = true := nr rfl
theorem scal_nilm  : PV.scal .nilm = true := nr rfl
theorem known_nili  : PV.known .nili = true := nr rfl
theorem cellsOf_nili  : PV.cellsOf .nili = [.nili] := nr rfl
theorem scal_nili  : PV.scal .nili = true := nr rfl
theorem known_ifc {t p} : PV.known (.ifc t p) = true := nr rfl
theorem cellsOf_ifc {t p} : PV.cellsOf (.ifc t p) = [(.ifc t p)] := nr rfl
theorem scal_ifc {t p} : PV.scal (.ifc t p) = true := nr rfl
theorem known_nilf  : PV.known .nilf = true := nr rfl
theorem cellsOf_nilf  : PV.cellsOf .nilf = [.nilf] := nr rfl
theorem cell_nilf  : PV.cell? .nilf = true := nr rfl
theorem scal_nilf  : PV.scal .nilf = true := nr rfl
theorem known_fptr {c} : PV.known (.fptr c) = true := nr rfl
theorem cellsOf_fptr {c} : PV.cellsOf (.fptr c) = [(.fptr c)] := nr rfl
theorem cell_fptr {c} : PV.cell? (.fptr c) = true := nr rfl
theorem scal_fptr {c} : PV.scal (.fptr c) = true := nr rfl
theorem known_lref {o i a b} : PV.known (.lref o i a b) = true := nr rfl
theorem cellsOf_lref {o i a b} : PV.cellsOf (.lref o i a b) = [(.lref o i a b)] := nr rfl
theorem cell_lref {o i a b} : PV.cell? (.lref o i a b) = true := nr rfl
theorem scal_lref {o i a b} : PV.scal (.lref o i a b) = false := nr rfl
theorem scal_fn {f a b} : PV.scal (.fn f a b) = true := nr rfl
theorem scal_osl {o i n} : PV.scal (.osl o i n) = false := nr rfl
/- nil or not -/
def isnV (k : NK) (neg : Bool) (p : PV) : Option PV := (isNil? k p).map fun b => .bool (if neg then !b else b)
theorem ev_isn {fb nw f ob k neg x} : ev fb nw ⟨f, ob⟩ (.isn k neg x) = tag ob (isnV k neg (St.val ⟨f, ob⟩ x)) := by
  simp only [ev, isnV, tag, Option.map_map]; rfl
theorem isnV_p0 {neg} : isnV .p neg .nilp = some (.bool (!neg)) := by cases neg <;> rfl
theorem isnV_p1 {neg o i} : isnV .p neg (.ref o i) = some (.bool neg) := by cases neg <;> rfl
theorem isnV_p2 {neg o i a b} : isnV .p neg (.lref o i a b) = some (.bool neg) := by cases neg <;> rfl
theorem isnV_p3 {neg c} : isnV .p neg (.fptr c) = some (.bool neg) := by cases neg <;> rfl
theorem isnV_i0 {neg} : isnV .i neg .nili = some (.bool (!neg)) := by cases neg <;> rfl
theorem isnV_i1 {neg t p} : isnV .i neg (.ifc t p) = some (.bool neg) := by cases neg <;> rfl
theorem isnV_m0 {neg} : isnV .m neg .nilm = some (.bool (!neg)) := by cases neg <;> rfl
theorem isnV_m1 {neg o} : isnV .m neg (.mp o) = some (.bool neg) := by cases neg <;> rfl
/- maps -/
theorem AOps_mop {P bs K d m args nw fb tg os f ob} : AOps P bs (⟨d, .mop m args, none, nw, fb, tg⟩ :: os) K ⟨f, ob⟩ = MStep m (args.map (St.val ⟨f, ob⟩)) ob (kA P bs os K f d) := nr (by cases d <;> rfl)
theorem MS_mk {ob K} : MStep .mk [] ob K = K (.mp ob.length) (ob ++ [.map 0 []]) := nr rfl
theorem MS_get {ok z o k ob K} : MStep (.get ok z) [.mp o, .int .i64 k] ob K = mGetO ok z k ob[o]? ob K := nr rfl
theorem mGetO_map {ok z k c es ob K} : mGetO ok z k (some (.map c es)) ob K = mGetP ok z (mGet k es) ob K := nr rfl
theorem mGetP_st {z p ob K} : mGetP true z (some p) ob K = K (.tup [p, .bool true]) ob := nr rfl
theorem mGetP_sf {z p ob K} : mGetP false z (some p) ob K = K p ob := nr rfl
theorem mGetP_nt {z ob K} : mGetP true z none ob K = K (.tup [z, .bool false]) ob := nr rfl
theorem mGetP_nf {z ob K} : mGetP false z none ob K = K z ob := nr rfl
theorem MS_set {o k v ob K} : MStep .set [.mp o, .int .i64 k, v] ob K = mSetO o k v ob[o]? ob K := nr rfl
theorem mSetO_map {o k v c es ob K} : mSetO o k v (some (.map c es)) ob K = mSetP o c k v es (mGet k es) ob K := nr rfl
theorem mSetP_s {o c k v es p ob K} : mSetP o c k v es (some p) ob K = K .bot (ob.set o (.map c (mSet k v es))) := nr rfl
theorem mSetP_n {o c k v es ob K} : mSetP o c k v es none ob K = K .bot (ob.set o (.map (c + 1) (es ++ [(c, k, v)]))) := nr rfl
theorem MS_del {o k ob K} : MStep .del [.mp o, .int .i64 k] ob K = mDelO o k ob[o]? ob K := nr rfl
theorem mDelO_map {o k c es ob K} : mDelO o k (some (.map c es)) ob K = K (.tup []) (ob.set o (.map c (mDel k es))) := nr rfl
theorem MS_len {o ob K} : MStep .len [.mp o] ob K = mLenO ob[o]? ob K := nr rfl
theorem mLenO_map {c es ob K} : mLenO (some (.map c es)) ob K = K (.int .i64 es.length) ob := nr rfl
theorem MS_rng {o ob K} : MStep .rng [.mp o] ob K = mRngO o ob[o]? ob K := nr rfl
theorem mRngO_map {o c es ob K} : mRngO o (some (.map c es)) ob K = K (.ref ob.length 0) (ob ++ [.iter o c [] c]) := nr rfl
theorem MS_nxt {o ob K} : MStep .nxt [.ref o 0] ob K = mNxtO o ob[o]? ob K := nr rfl
theorem mNxtO_iter {o m a b d ob K} : mNxtO o (some (.iter m a b d)) ob K = mNxtM o m a b d ob[m]? ob K := nr rfl
theorem mNxtM_map {o m a b d c es ob K} : mNxtM o m a b d (some (.map c es)) ob K = mNxtP o m a b d c es ob K := nr rfl
theorem MS_ent {o ob K} : MStep .ent [.ref o 0] ob K = mEntO ob[o]? ob K := nr rfl
theorem mEntO_iter {m a b d ob K} : mEntO (some (.iter m a b d)) ob K = mEntM b d ob[m]? ob K := nr rfl
theorem mEntM_map {b c es ob K} : mEntM b c (some (.map c es)) ob K = mEntE (b.getLast?.bind fun b => es.find? fun e => e.1 == b) ob K := nr (by simp only [mEntM, true_and])
theorem entG {l : List Nat} {x : Nat} {f : Nat → Option (Nat × Int × PV)} : (l ++ [x]).getLast?.bind f = f x := by simp
theorem mEntE_some {e ob K} : mEntE (some e) ob K = K (.tup [.int .i64 e.2.1, e.2.2]) ob := nr rfl
theorem ownL_mp {o r} : ownL (.mp o :: r) = true := by simp [ownL, PV.own?]
theorem ownL_nilm {r} : ownL (.nilm :: r) = ownL r := by simp [ownL, PV.own?]
theorem cutV_mp {n o} (h : o < n) : cutV n (.mp o) = .mp o := by simp [cutV, PV.und, h]
theorem cutV_nilm {n} : cutV n .nilm = .nilm := by simp [cutV, PV.und]
theorem cutO_iter {n m a b d} (h : m < n) : cutO n (.iter m a b d) = .iter m a b d := by simp [cutO, h]
theorem cutO_map {n c es} : cutO n (.map c es) = .map c (es.map fun e => (e.1, e.2.1, cutV n e.2.2)) := nr rfl
theorem AOps_itg {P bs K d fn args nw fb tg os f ob} : AOps P bs (⟨d, .icall fn args, none, nw, fb, tg⟩ :: os) K ⟨f, ob⟩ = AOps P bs (⟨d, .icall fn args, none, none, [], none⟩ :: os) K ⟨f, ob⟩ := nr (by cases d <;> rfl)
/- from what a part of the code is, how it is walked -/
theorem mU {a b : AC} (h : a = b) {P bb Q f ob} : AWP P bb a Q ⟨f, ob⟩ = AWP P bb b Q ⟨f, ob⟩ := by rw [h]
theorem mR {a : AC} {l : List AOp} (h : a = .reg l) {P bb Q f ob} : AWP P bb a Q ⟨f, ob⟩ = AOps P ob.length l (Q .n) ⟨f, ob⟩ := by rw [h, AWP_reg]
theorem mD {a : AC} {m : Nat} {l : List AOp} (h : a = .dreg m l) {P bb Q f ob} : AWP P bb a Q ⟨f, ob⟩ = AOps P ob.length l (Q .n) ⟨f, ob ++ List.replicate m .none⟩ := by rw [h, AWP_dreg]
end Go.Proofs.YtdgpiobmncohjaaGreatDoor.Aw
