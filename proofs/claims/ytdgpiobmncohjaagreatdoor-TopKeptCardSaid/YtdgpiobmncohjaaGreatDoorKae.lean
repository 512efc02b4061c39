/-
 That the abstract operations tell the truth: bytes of a string, make, append.; That the abstract operations tell the truth: a strings.Builder of the call's own.
-/
import Derived.Test.YtdgpiobmncohjaaGreatDoorKad
import Derived.Laws.IdiomStrings
set_option linter.all false
namespace Go.Proofs.YtdgpiobmncohjaaGreatDoor.Aw
open Go.RowKit
section
variable {P : Program} {c : Ctx} {F : Nat → Prop} {l : Locs} {w : World} {s : St} {a : Act}
theorem grownCap_ge' (w : World) (need old : Nat) (e : TypeId) : need ≤ grownCap w need old e := by
 simp [grownCap, Question.cut]
theorem free_end (n : Nat) : Free (n, n + 1) n := fun j hj h => Nat.lt_irrefl j (Nat.lt_of_lt_of_le hj h.1)
theorem s2b_sound {forb : List Nat} {nw : Option Nat} {own : Bool} {src dst e : TypeId} {x : Operand} {pv : PV} {ob' : List AObj} (h1 : P.underlying src = some .string) (h2 : P.underlying dst = some (.slice e)) (h3 : P.underlying e = some (.int .u8)) (R : RepW c F l s.ob w) (hs : SlotsOk w F l s a) (he : ev forb nw s (.s2b own (opx x)) = some (pv, ob')) :
  ∃ v w' F' l', (convert src dst (a.eval x)).run P w = .ok v w' ∧ RepW c F' l' ob' w' ∧ Mono w F l w' F' l' ∧ R1 w' F' l' pv v := by
 have hx := opx_sound hs x
 simp only [ev] at he
 split at he
 ·rename_i b hv
  rw [hv] at hx
  have hrun := run_bytes_of_string (P := P) w src dst e ⟨b.toArray⟩ h1 h2 h3
  rw [← hx.str_inv] at hrun
  have hsz : (⟨b.toArray⟩ : ByteArray).size = b.length := by simp [ByteArray.size]
  rw [hsz] at hrun
  generalize hcap : grownCap w b.length 0 e = cap at hrun
  have hge : b.length ≤ cap := by rw [← hcap]; exact grownCap_ge' _ _ _ _
  have hcells : (bytesRow ⟨b.toArray⟩ cap).toList = (b.map fun x => Value.int .u8 x.toNat) ++ List.replicate (cap - b.length) (.int .u8 0) := by
   simp [bytesRow, hsz]
  have hcsz : (bytesRow ⟨b.toArray⟩ cap).size = cap := by
   rw [← Array.length_toList, hcells]; simp; omega
  have hc : ∀ j, j < (b.map fun x => Value.int .u8 (x.toNat : Int)).length → (bytesRow ⟨b.toArray⟩ cap)[j]? = (b.map fun x => Value.int .u8 (x.toNat : Int))[j]? := by
   intro j hj
   rw [← Array.getElem?_toList, hcells, List.getElem?_append_left hj]
  have hone : ∀ v ∈ b.map fun x => Value.int .u8 (x.toNat : Int), v.oneCell' = true := by
   intro v hv
   obtain ⟨y, _, rfl⟩ := List.mem_map.1 hv
   rfl
  have hlen : (byteRows b).length = b.length := by simp [byteRows]
  split at he
  ·simp only [Option.map_eq_some_iff] at he
   obtain ⟨⟨k, ob1⟩, hmk, he⟩ := he
   simp only [Prod.mk.injEq] at he
   obtain ⟨rfl, rfl⟩ := he
   obtain ⟨l', R', m', hv'⟩ := new_list R (cap := cap) below_drew_alloc (drew_alloc_heap w _) (free_end _) (byteRows_len b) (RL_bytes b) hc hone (by omega) (by omega) hmk
   rw [hlen] at hv'
   exact ⟨_, _, F, l', hrun, R', m', hv'⟩
  ·simp only [Option.some.injEq, Prod.mk.injEq] at he
   obtain ⟨rfl, rfl⟩ := he
   obtain ⟨F', R', m', hv'⟩ := new_frozen R (cap := cap) below_drew_alloc (drew_alloc_heap w _) (byteRows_len b) (RL_bytes b) hc hone (by omega)
   rw [hlen] at hv'
   exact ⟨_, _, F', l, hrun, R', m', hv'⟩
 ·cases he
def cMks (P : Program) (own : Bool) (t : TypeId) (x y : Operand) : Option AO :=
 match P.underlying t with
 | some (.slice e) => match zcells P e with
  | some (i, z) => if i.bytes ≤ 65536 then some (.mks own (z.cells.toList.map (if own then cvN else cvS)) i.bytes (opx x) (opx y)) else none
  | none => none
 | _ => none
theorem mks_sound {forb : List Nat} {nw : Option Nat} {own : Bool} {t : TypeId} {x y : Operand} {ao : AO} {pv : PV} {ob' : List AObj} (hc : cMks P own t x y = some ao) (R : RepW c F l s.ob w) (hs : SlotsOk w F l s a) (he : ev forb nw s ao = some (pv, ob')) :
  ∃ v w' F' l', (Instr.makeSlice t (a.eval x) (a.eval y)).run P w = .ok v w' ∧ RepW c F' l' ob' w' ∧ Mono w F l w' F' l' ∧ R1 w' F' l' pv v := by
 have hx := opx_sound hs x
 have hy := opx_sound hs y
 unfold cMks at hc
 split at hc
 ·rename_i e hu
  split at hc
  ·rename_i i z hz
   split at hc
   ·rename_i hby
    simp only [Option.some.injEq] at hc
    subst hc
    obtain ⟨h1, h2, h3, h4⟩ := zcells_spec hz
    obtain ⟨zs, hzs, hzr⟩ : ∃ zs : List PV, z.cells.toList.map (if own then cvN else cvS) = zs ∧ RL w F (fun _ => none) zs z.cells.toList := ⟨_, rfl, by cases own with | true => exact RL_cvN _ | false => exact RL_cvS _⟩
    rw [hzs] at he
    simp only [ev] at he
    split at he
    ·rename_i k n k' m hv1 hv2
     rw [hv1] at hx; rw [hv2] at hy
     split at he
     ·rename_i hcond
      obtain ⟨hn0, rfl, hn24, hscal, hown⟩ := hcond
      have hzl : zs.length = i.size := by rw [hzr.1, Array.length_toList, h3]
      have hbc : (i.bytes : Int) * n ≤ 281474976710656 := by
       have e1 : (i.bytes : Int) * n ≤ 65536 * n := Int.mul_le_mul_of_nonneg_right (by omega) hn0
       omega
      have hrun := run_make (P := P) w t e i z hu h1 h2 k k' n n hn0 (Int.le_refl _) hbc (by omega)
      rw [← hx.int_inv, ← hy.int_inv] at hrun
      have hrep : ∀ r ∈ List.replicate n.toNat zs, r.length = i.size := fun r hr => by rw [List.eq_of_mem_replicate hr, hzl]
      have hlist : (madeCells z.cells (n.toNat * i.size)).toList = (List.replicate n.toNat z.cells.toList).flatten := by rw [← h3, made_list]
      have hrl : RL w F (fun _ => none) (List.replicate n.toNat zs).flatten (List.replicate n.toNat z.cells.toList).flatten := by
       generalize n.toNat = q
       induction q with
       | zero => exact RL.nil
       | succ q ih => rw [List.replicate_succ, List.replicate_succ, List.flatten_cons, List.flatten_cons]; exact hzr.append ih
      have hone : ∀ v ∈ (List.replicate n.toNat z.cells.toList).flatten, v.oneCell' = true := by
       intro v hv
       obtain ⟨r, hr, hvr⟩ := List.mem_flatten.1 hv
       rw [List.eq_of_mem_replicate hr] at hvr
       exact h4 v hvr
      have hcells : ∀ j, j < (List.replicate n.toNat z.cells.toList).flatten.length → (madeCells z.cells (n.toNat * i.size))[j]? = (List.replicate n.toNat z.cells.toList).flatten[j]? := fun j _ => by
       rw [← Array.getElem?_toList, hlist]
      have hlen : (List.replicate n.toNat zs).length = n.toNat := by simp
      split at he
      ·split at he
       ·simp only [Option.map_eq_some_iff] at he
        obtain ⟨⟨q, ob1⟩, hmk, he⟩ := he
        simp only [Prod.mk.injEq] at he
        obtain ⟨rfl, rfl⟩ := he
        have harr : madeCells z.cells (n.toNat * i.size) = (List.replicate n.toNat z.cells.toList).flatten.toArray := by rw [← hlist, Array.toArray_toList]
        obtain ⟨l', R', m', hv'⟩ := new_box R (e := e) (cells := (List.replicate n.toNat zs).flatten) (cv := (List.replicate n.toNat z.cells.toList).flatten) below_alloc (by rw [← harr]; exact alloc_heap w _) (hrl.up ⟨fun _ h => h, fun _ _ => rfl, LocExt.ofNone l⟩) hone hmk
        refine ⟨_, _, F, l', hrun, R', m', ?_⟩
        obtain ⟨L, g1, g2, g3⟩ := hv'.ref_inv
        simp only [Value.pointer.injEq, Option.some.injEq, Addr.mk.injEq] at g3
        have hb : w.heap.size = L.blk := g3.1
        rw [hb]
        exact .bsl g1 g2 (Nat.le_refl _)
       simp only [Option.map_eq_some_iff] at he
       obtain ⟨⟨q, ob1⟩, hmk, he⟩ := he
       simp only [Prod.mk.injEq] at he
       obtain ⟨rfl, rfl⟩ := he
       rw [hzl] at hmk
       obtain ⟨l', R', m', hv'⟩ := new_list R (cap := n.toNat) below_alloc (alloc_heap w _) (free00 _) hrep hrl hcells hone (by omega) (by rw [size_madeCells]; omega) hmk
       rw [hlen] at hv'
       exact ⟨_, _, F, l', hrun, R', m', hv'⟩
      ·simp only [Option.some.injEq, Prod.mk.injEq] at he
       obtain ⟨rfl, rfl⟩ := he
       obtain ⟨F', R', m', hv'⟩ := new_frozen R (cap := n.toNat) below_alloc (alloc_heap w _) hrep hrl hcells hone (by omega)
       rw [hlen] at hv'
       exact ⟨_, _, F', l, hrun, R', m', hv'⟩
     ·cases he
    ·cases he
   ·cases hc
  ·cases hc
 ·cases hc
def cApp (P : Program) (t t' : TypeId) (x y : Operand) : Option AO :=
 match P.underlying t with
 | some (.slice e) => match zcells P e, P.underlying t' with
  | some (i, z), some (.slice _) => if i.bytes ≤ 65536 ∧ 0 < i.size ∧ t = t' then some (.app i.size i.bytes (z.cells.toList.map cvS) (opx x) (opx y)) else none
  | _, _ => none
 | _ => none
theorem firstCells_run {sz n cap : Nat} {ad : Option Addr} {cv : List Value} (hl : cv.length = n * sz) (h : n = 0 ∨ ∃ b off, ad = some ⟨b, off, none⟩ ∧ ∀ j x, cv[j]? = some x → w.cell? ⟨b, off + j, none⟩ = some x) :
  (Builtin.firstCells sz n (.slice ad n cap)).run P w = .ok cv.toArray w := by
 rcases h with rfl | ⟨b, off, rfl, h⟩
 ·have : cv = [] := List.eq_nil_of_length_eq_zero (by simpa using hl)
  subst this
  cases ad <;> simp [Builtin.firstCells, loadCells, loadCellsFrom]
 ·simp only [Builtin.firstCells]
  exact run_loadCells_ptr hl h
theorem fits48 {need cap bytes : Nat} (h1 : cap < need) (h2 : need ≤ 33554432) (h3 : bytes ≤ 65536) : ¬ Builtin.nextslicecap need cap * bytes > 2 ^ 48 := by
 have h4 : Builtin.nextslicecap need cap ≤ 4 * need + 4096 := by
  unfold Builtin.nextslicecap
  split
  ·omega
  ·split
   ·omega
   ·have : ∀ (r c : Nat), c ≤ 4 * need + 3072 → Builtin.growBy need r c ≤ 4 * need + 4096 := by
     intro r
     induction r with
     | zero => intro c hc; simp [Builtin.growBy]; omega
     | succ r ih =>
      intro c hc
      simp only [Builtin.growBy]
      split
      ·omega
      ·exact ih _ (by omega)
    exact this 4 cap (by omega)
 have : Builtin.nextslicecap need cap * bytes ≤ (4 * need + 4096) * 65536 := Nat.mul_le_mul h4 h3
 omega
theorem app_grow {t t' ty e : TypeId} {i : TypeInfo} {z : Value} (hu : P.underlying t = some (.slice e)) (hu' : ∃ e', P.underlying t' = some (.slice e')) (hi : P.info? e = some i) (hz : i.zero = some z)
  {base ad : Option Addr} {n cap m m' : Nat} {olds news : List Value} (hold : (Builtin.firstCells i.size n (.slice base n cap)).run P w.drew = .ok olds.toArray w.drew) (hnew : (Builtin.firstCells i.size m (.slice ad m m')).run P w.drew = .ok news.toArray w.drew)
  (hg : cap < n + m) (hsm : n + m ≤ 33554432) (hby : i.bytes ≤ 65536) :
  (Builtin.append_ #[t, t'] ty #[.slice base n cap, .slice ad m m']).run P w =
   .ok (.slice (some ⟨w.heap.size, 0, none⟩) (n + m) (grownCap w (n + m) cap e)) (w.drew.alloc (.cells (olds.toArray ++ news.toArray ++ Builtin.zeroCells z.cells (grownCap w (n + m) cap e - (n + m))) e)) := by
 obtain ⟨e', hu'⟩ := hu'
 have hn : ¬ (n + m ≤ cap) := by omega
 have h63 : ¬ (9223372036854775807 < ((n : Int) + (m : Int))) := by omega
 have h48 := fits48 hg hsm hby
 have h48' : ¬ (281474976710656 < Builtin.nextslicecap (n + m) cap * i.bytes) := by simpa using h48
 simp [Builtin.append_, run_underlying hu, run_underlying hu', sizeOf, typeInfo, zeroValue, hi, hz, Builtin.lenOf, hn, h63, h48', Question.forced, hold, hnew, newRow, grownCap]
 congr 2
 apply Array.ext'
 simp
theorem app_room0 {t t' ty e : TypeId} {i : TypeInfo} (hu : P.underlying t = some (.slice e)) (hu' : ∃ e', P.underlying t' = some (.slice e')) (hi : P.info? e = some i)
  {base ad : Option Addr} {n cap m m' : Nat} {news : List Value} {w' : World} (hnew : (Builtin.firstCells i.size m (.slice ad m m')).run P w = .ok news.toArray w) (hg : n + m ≤ cap)
  (hst : ∀ b, base = some b → (storeCells (b.add (n * i.size)) news).run P w = .ok () w') (hb : base = none → w' = w) :
  (Builtin.append_ #[t, t'] ty #[.slice base n cap, .slice ad m m']).run P w = .ok (.slice base (n + m) cap) w' := by
 obtain ⟨e', hu'⟩ := hu'
 cases base with
 | none =>
  have := hb rfl; subst this
  simp [Builtin.append_, run_underlying hu, run_underlying hu', sizeOf, typeInfo, hi, Builtin.lenOf, hg, hnew]
 | some b =>
  have := hst b rfl
  simp [Builtin.append_, run_underlying hu, run_underlying hu', sizeOf, typeInfo, hi, Builtin.lenOf, hg, hnew, this]
theorem app_sound {forb : List Nat} {nw : Option Nat} {t t' ty : TypeId} {x y : Operand} {ao : AO} {pv : PV} {ob' : List AObj} (hc : cApp P t t' x y = some ao) (R : RepW c F l s.ob w) (hs : SlotsOk w F l s a) (he : ev forb nw s ao = some (pv, ob')) :
  ∃ v w' F' l', (Builtin.append_ #[t, t'] ty #[a.eval x, a.eval y]).run P w = .ok v w' ∧ RepW c F' l' ob' w' ∧ Mono w F l w' F' l' ∧ R1 w' F' l' pv v := by
 have hx := opx_sound hs x
 have hy := opx_sound hs y
 unfold cApp at hc
 split at hc
 ·rename_i e hu
  split at hc
  ·rename_i i z e' hz hu'
   split at hc
   ·rename_i hcond
    obtain ⟨hby, hpos, _⟩ := hcond
    simp only [Option.some.injEq] at hc
    subst hc
    obtain ⟨h1, h2, h3, h4⟩ := zcells_spec hz
    simp only [ev, Option.bind_eq_some_iff] at he
    obtain ⟨new, hnew, he⟩ := he
    obtain ⟨ad, m', hyv, hm', hcells⟩ := rowsOf_sound R hy hnew
    split at he
    ·rename_i hnc
     obtain ⟨hok, hnl⟩ := hnc
     have hrow := rowsOk_iff.1 hok
     have hnews : ∃ news : List Value, RL w F (fun _ => none) new.flatten news ∧ news.length = new.length * i.size ∧ (∀ v ∈ news, v.oneCell' = true) ∧ (new.length = 0 ∨ ∃ b off, ad = some ⟨b, off, none⟩ ∧ ∀ j x, news[j]? = some x → w.cell? ⟨b, off + j, none⟩ = some x) := by
      rcases hcells with rfl | ⟨b, off, cvv, esz, rfl, hr, hrl, hcell, hone⟩
      ·exact ⟨[], RL.nil, by simp, by simp, .inl rfl⟩
      ·exact ⟨cvv, hrl, by rw [← hrl.1, flatten_len new hrow], hone, .inr ⟨b, off, rfl, hcell⟩⟩
     obtain ⟨news, hrl, hnlen, hone, hread⟩ := hnews
     have hfc := firstCells_run (P := P) (w := w) (cap := m') hnlen hread
     have hfcd := firstCells_run (P := P) (w := w.drew) (cap := m') hnlen (by simpa using hread)
     rw [hyv]
     split at he
     ·rename_i hvx
      rw [hvx] at hx
      generalize a.eval x = u at hx
      cases hx
      simp only [Option.map_eq_some_iff] at he
      obtain ⟨⟨k, ob1⟩, hmk, he⟩ := he
      simp only [Prod.mk.injEq] at he
      obtain ⟨rfl, rfl⟩ := he
      by_cases hn0 : new.length = 0
      ·have hne : new = [] := List.eq_nil_of_length_eq_zero hn0
       subst hne
       obtain ⟨l', R', m'', hv'⟩ := new_nil R hmk
       exact ⟨_, w, F, l', app_room0 hu ⟨_, hu'⟩ h1 hfc (by simp) (fun b hb => nomatch hb) (fun _ => rfl), R', m'', hv'⟩
      ·have hrun := app_grow (ty := ty) (w := w) hu ⟨_, hu'⟩ h1 h2 (base := none) (n := 0) (cap := 0) (olds := []) (by simp [Builtin.firstCells]) hfcd (by omega) (by omega) hby
       simp only [Nat.zero_add] at hrun
       generalize hcap : grownCap w new.length 0 e = cap at hrun
       have hge : new.length ≤ cap := by rw [← hcap]; exact grownCap_ge' _ _ _ _
       obtain ⟨l', R', m'', hv'⟩ := new_list R (cap := cap) (cv := news) below_drew_alloc (drew_alloc_heap w (.cells (([] : List Value).toArray ++ news.toArray ++ Builtin.zeroCells z.cells (cap - new.length)) e)) (free00 _) hrow hrl (fun j hj => by simp [Array.getElem?_append, hj]) hone hge (by
        simp only [Array.size_append, List.size_toArray, size_zeroCells, h3, hnlen, List.length_nil, Nat.zero_add, ← Nat.add_mul]
        exact Nat.le_of_eq (by congr 1; omega)) hmk
       exact ⟨_, _, F, l', hrun, R', m'', hv'⟩
     ·rename_i o j n hvx
      split at he
      ·cases he
      split at he
      ·rename_i zz rows hob
       split at he
       ·rename_i hcond
        obtain ⟨hzz, hcur, hrl24⟩ := hcond
        simp only [Option.some.injEq, Prod.mk.injEq] at he
        obtain ⟨rfl, rfl⟩ := he
        rw [hvx] at hx
        generalize a.eval x = u at hx
        cases hx with
        | @osl l o j n L v ho hbx hlen hv' hh =>
         rcases R.objs o _ hob with g0 | ⟨L', g0, g1⟩
         ·simp at g0
         rw [ho] at g0; cases g0
         obtain ⟨g2, g3, g4, g5, g6⟩ := g1
         subst hzz
         have hrows' : ∀ r ∈ rows ++ new, r.length = i.size := by
          intro r hr
          rcases List.mem_append.1 hr with hr | hr
          ·exact g5 r hr
          ·exact hrow r hr
         rcases hh (by omega) with ⟨k1, k2, k3, k4⟩ | ⟨k1, k2, ad', k3, k4⟩
         ·-- a list that is nil
          subst k2; subst k3; subst k4
          have hre : rows = [] := List.eq_nil_of_length_eq_zero (by omega)
          subst hre
          by_cases hn0 : new.length = 0
          ·have hne : new = [] := List.eq_nil_of_length_eq_zero hn0
           subst hne
           obtain ⟨R', m''⟩ := R.change (w' := w) (L := L) (L' := L) (a' := .list i.size ([] ++ [])) ho (R.lt o L ho) rfl rfl rfl (Nat.le_refl _) (fun _ _ _ => rfl) (.inl rfl) (fun h => by rw [k1] at h; cases h) (fun m => ⟨g2, g3, g4, by simp, .inl ⟨k1, rfl⟩⟩)
           exact ⟨_, w, F, _, app_room0 hu ⟨_, hu'⟩ h1 hfc (by simp) (fun b hb => nomatch hb) (fun _ => rfl), R', m'', .osl (updL_same _ _ _) hbx (by simp) ⟨_, _, _, rfl⟩ fun _ => .inl ⟨k1, rfl, by simp, rfl⟩⟩
          ·have hrun := app_grow (ty := ty) (w := w) hu ⟨_, hu'⟩ h1 h2 (base := none) (n := 0) (cap := 0) (olds := []) (by simp [Builtin.firstCells]) hfcd (by omega) (by omega) hby
           simp only [Nat.zero_add] at hrun
           generalize hcap : grownCap w new.length 0 e = cap at hrun
           have hge : new.length ≤ cap := by rw [← hcap]; exact grownCap_ge' _ _ _ _
           let L' : Loc := ⟨w.heap.size, 0, 0, cap, new.length, i.size, false, false⟩
           have hL0 : L.len < L'.len := by
            have h0 : L.len = 0 := by simpa using g3
            show L.len < new.length
            omega
           obtain ⟨R', m''⟩ := R.change (w' := w.drew.alloc (.cells (([] : List Value).toArray ++ news.toArray ++ Builtin.zeroCells z.cells (cap - new.length)) e)) (L := L) (L' := L') (a' := .list i.size ([] ++ new)) ho (R.lt o L ho) rfl rfl rfl (by simp)
            (fun b hb _ => (below_drew_alloc (w := w)).block b hb) (.inr ⟨hbx, rfl, hL0⟩) (fun _ => .inr ⟨Nat.le_refl _, by simp [L']⟩)
            (fun m => ⟨rfl, by simp [L'], rfl, by simpa using hrow, .inr ⟨rfl, Nat.zero_le _, by simpa [L'] using hge, _, e, (0, 0), news, drew_alloc_heap w _, free00 _, (by
             simp only [L', Array.size_append, List.size_toArray, size_zeroCells, h3, hnlen, List.length_nil, Nat.zero_add, ← Nat.add_mul, Nat.sub_zero]
             exact Nat.le_of_eq (by congr 1; omega)), (by simpa [L'] using hrl.up ⟨m.frz, m.heap, LocExt.refl _⟩), (fun j hj => by simp [L', Array.getElem?_append, hj]), hone⟩⟩)
           exact ⟨_, _, F, _, hrun, R', m'', .osl (updL_same _ _ _) rfl (by simp [L']) ⟨_, _, _, rfl⟩ fun _ => .inr ⟨rfl, Nat.zero_le _, ⟨w.heap.size, 0, none⟩, by simp [L'], fun _ => by simp [L']⟩⟩
         ·-- a list with a block
          subst k3
          rcases g6 with ⟨g6, g7⟩ | ⟨g6, g7, g8, cc, ee, fr, cvv, g9, g10, g11, g12, g13, g14⟩
          ·rw [g6] at k1; cases k1
          have hd : ∀ r ∈ rows.drop L.st, r.length = i.size := fun r hr => g5 r (List.mem_of_mem_drop hr)
          have hcvl : cvv.length = (rows.length - L.st) * i.size := by rw [← g12.1, flatten_len _ hd, List.length_drop]
          by_cases hroom : n + new.length ≤ L.cap - j
          ·-- in its place
           by_cases hn0 : new.length = 0
           ·have hne : new = [] := List.eq_nil_of_length_eq_zero hn0
            subst hne
            have hnn : news = [] := List.eq_nil_of_length_eq_zero (by simpa using hnlen)
            subst hnn
            obtain ⟨R', m''⟩ := R.change (w' := w) (L := L) (L' := L) (a' := .list i.size (rows ++ [])) ho (R.lt o L ho) rfl rfl rfl (Nat.le_refl _) (fun _ _ _ => rfl) (.inl rfl) (fun _ => .inl ⟨k1, rfl⟩)
             (fun m => ⟨g2, by simpa using g3, g4, by simpa using g5, .inr ⟨g6, by simpa using g7, by simpa using g8, cc, ee, fr, cvv, g9, g10, g11, by simpa using g12, g13, g14⟩⟩)
            refine ⟨_, w, F, _, app_room0 hu ⟨_, hu'⟩ h1 hfc hroom (fun b hb => ?_) (fun h => nomatch h), R', m'', .osl (updL_same _ _ _) hbx (by simp; omega) ⟨_, _, _, rfl⟩ fun _ => .inr ⟨k1, k2, ad', by simp, k4⟩⟩
            simp [storeCells]
           ·have hjc : j < L.cap := by omega
            have had := k4 hjc
            subst had
            have hpos' : n * i.size + news.length ≤ (L.cap - j) * i.size := by
             rw [hnlen, ← Nat.add_mul]; exact Nat.mul_le_mul_right _ hroom
            have hoff : (j - L.st) * i.size + (L.cap - j) * i.size = (L.cap - L.st) * i.size := by
             rw [← Nat.add_mul]; congr 1; omega
            have hend : (j - L.st) * i.size + n * i.size = (rows.length - L.st) * i.size := by
             rw [← Nat.add_mul]; congr 1; omega
            have hst := run_storeCells_free (P := P) L.blk (L.off + (j - L.st) * L.esz + n * i.size) ee fr news 0 cc w g9 g10 (by rw [g4]; omega) hone
            simp only [Nat.add_zero] at hst
            have hb4 := setRow_below (w := w) (g := L.blk) (cc.toList.take (L.off + (j - L.st) * L.esz + n * i.size) ++ news ++ cc.toList.drop (L.off + (j - L.st) * L.esz + n * i.size + news.length)).toArray
            let L' : Loc := ⟨L.blk, L.off, L.st, L.cap, rows.length + new.length, i.size, false, false⟩
            have hsz : ((cc.toList.take (L.off + (j - L.st) * L.esz + n * i.size) ++ news ++ cc.toList.drop (L.off + (j - L.st) * L.esz + n * i.size + news.length)).toArray).size = cc.size := by
             rw [g4]; simp; omega
            have hpre : L.off + (j - L.st) * L.esz + n * i.size = L.off + cvv.length := by rw [g4, hcvl]; omega
            have hcell' : ∀ q, q < (cvv ++ news).length → ((cc.toList.take (L.off + (j - L.st) * L.esz + n * i.size) ++ news ++ cc.toList.drop (L.off + (j - L.st) * L.esz + n * i.size + news.length)).toArray)[L.off + q]? = (cvv ++ news)[q]? := by
             intro q hq
             rw [List.getElem?_toArray, hpre, List.append_assoc]
             have e1 : (cc.toList.take (L.off + cvv.length)).length = L.off + cvv.length := by rw [List.length_take]; simp; omega
             by_cases q1 : q < cvv.length
             ·rw [List.getElem?_append_left (by omega), List.getElem?_append_left q1, List.getElem?_take, if_pos (by omega), ← g13 q q1]; simp
             ·rw [List.length_append] at hq
              have a2 : (cvv ++ news)[q]? = news[q - cvv.length]? := List.getElem?_append_right (by omega)
              rw [a2, List.getElem?_append_right (by omega), e1, List.getElem?_append_left (by omega)]
              congr 1; omega
            obtain ⟨R', m''⟩ := R.change (L := L) (L' := L') (a' := .list i.size (rows ++ new)) ho (R.lt o L ho) hb4.1 hb4.2.1 hb4.2.2.1 (Nat.le_of_eq hb4.2.2.2.symm) (fun b _ hb' => setRow_other w _ _ _ (hb' k1)) (.inr ⟨hbx, rfl, by simp [L']; omega⟩) (fun _ => .inl ⟨k1, rfl⟩)
             (fun m => ⟨rfl, by simp [L'], rfl, hrows', .inr ⟨rfl, by simp [L']; omega, by simp [L']; omega, _, ee, fr, cvv ++ news, setRow_heap w L.blk cc _ ee fr g9, by rw [hsz]; exact g10, by rw [hsz]; exact g11, (by
              show RL _ _ _ ((rows ++ new).drop L.st).flatten _
              rw [List.drop_append_of_le_length g7, List.flatten_append]
              exact (g12.append hrl).up ⟨m.frz, m.heap, LocExt.refl _⟩), hcell', (fun v hv => by
              rcases List.mem_append.1 hv with hv | hv
              ·exact g14 v hv
              ·exact hone v hv)⟩⟩)
            refine ⟨_, _, F, _, app_room0 hu ⟨_, hu'⟩ h1 hfc hroom (fun b hb => ?_) (fun h => nomatch h), R', m'', .osl (updL_same _ _ _) rfl (by simp [L']; omega) ⟨_, _, _, rfl⟩ fun _ => .inr ⟨rfl, k2, _, rfl, fun _ => by simp [L', g4]⟩⟩
            cases hb
            rw [Addr.add_lit]
            exact hst
          ·-- grown
           have holds : ∃ olds : List Value, RL w F (fun _ => none) (rows.drop j).flatten olds ∧ olds.length = n * i.size ∧ (∀ v ∈ olds, v.oneCell' = true) ∧ (n = 0 ∨ ∃ b off, some ad' = some (⟨b, off, none⟩ : Addr) ∧ ∀ q x, olds[q]? = some x → w.cell? ⟨b, off + q, none⟩ = some x) := by
            have e1 : (rows.drop j).flatten = (rows.drop L.st).flatten.drop ((j - L.st) * i.size) := by
             rw [← flatten_drop _ _ hd, List.drop_drop]; congr 2; omega
            have hl : (cvv.drop ((j - L.st) * i.size)).length = n * i.size := by
             rw [List.length_drop, hcvl, ← Nat.sub_mul]; congr 1; omega
            refine ⟨cvv.drop ((j - L.st) * i.size), by rw [e1]; exact g12.drop _, hl, fun v hv => g14 v (List.mem_of_mem_drop hv), ?_⟩
            by_cases hn0 : n = 0
            ·exact .inl hn0
            ·right
             refine ⟨L.blk, L.off + (j - L.st) * L.esz, by rw [k4 (by omega)], fun q x hq => ?_⟩
             rw [cell_of_block g9]
             rw [List.getElem?_drop] at hq
             have := (List.getElem?_eq_some_iff.1 hq).1
             rw [← hq, ← g13 _ this, g4]
             congr 1; omega
           obtain ⟨olds, o1, o2, o3, o4⟩ := holds
           have hrun := app_grow (ty := ty) (w := w) hu ⟨_, hu'⟩ h1 h2 (base := some ad') (n := n) (cap := L.cap - j) (firstCells_run (P := P) (w := w.drew) o2 (by simpa using o4)) hfcd (by omega) (by omega) hby
           generalize hcap : grownCap w (n + new.length) (L.cap - j) e = cap at hrun
           have hge : n + new.length ≤ cap := by rw [← hcap]; exact grownCap_ge' _ _ _ _
           have hnpos : 0 < new.length := by omega
           let L' : Loc := ⟨w.heap.size, 0, j, j + cap, rows.length + new.length, i.size, false, false⟩
           obtain ⟨R', m''⟩ := R.change (w' := w.drew.alloc (.cells (olds.toArray ++ news.toArray ++ Builtin.zeroCells z.cells (cap - (n + new.length))) e)) (L := L) (L' := L') (a' := .list i.size (rows ++ new)) ho (R.lt o L ho) rfl rfl rfl (by simp)
            (fun b hb _ => (below_drew_alloc (w := w)).block b hb) (.inr ⟨hbx, rfl, by simp [L']; omega⟩) (fun _ => .inr ⟨Nat.le_refl _, by simp [L']⟩)
            (fun m => ⟨rfl, by simp [L'], rfl, hrows', .inr ⟨rfl, by simp [L']; omega, by simp [L']; omega, _, e, (0, 0), olds ++ news, drew_alloc_heap w _, free00 _, (by
             simp only [L', Array.size_append, List.size_toArray, size_zeroCells, h3, hnlen, o2, Nat.zero_add, ← Nat.add_mul, Nat.add_sub_cancel_left]
             exact Nat.le_of_eq (by congr 1; omega)), (by
             show RL _ _ _ ((rows ++ new).drop j).flatten _
             rw [List.drop_append_of_le_length (by omega), List.flatten_append]
             exact (o1.append hrl).up ⟨m.frz, m.heap, LocExt.refl _⟩), (fun q hq => by
             have : (olds.toArray ++ news.toArray ++ Builtin.zeroCells z.cells (cap - (n + new.length))).toList = (olds ++ news) ++ (Builtin.zeroCells z.cells (cap - (n + new.length))).toList := by simp
             rw [← Array.getElem?_toList, this, List.getElem?_append_left (by simpa [L'] using hq)]; simp [L']), (fun v hv => by
             rcases List.mem_append.1 hv with hv | hv
             ·exact o3 v hv
             ·exact hone v hv)⟩⟩)
           exact ⟨_, _, F, _, hrun, R', m'', .osl (updL_same _ _ _) rfl (by simp [L']; omega) ⟨_, _, _, rfl⟩ fun _ => .inr ⟨rfl, Nat.le_refl _, ⟨w.heap.size, 0, none⟩, by simp [L'], fun _ => by simp [L']⟩⟩
       ·cases he
      ·cases he
     ·cases he
    ·cases he
   ·cases hc
  ·cases hc
 ·cases hc
end
open Go.RowKit
section
variable {P : Program} {c : Ctx} {F : Nat → Prop} {l : Locs} {w : World} {s : St} {a : Act}
def isBuilderZero : List Value → Bool
 | [.pointer none, .slice none 0 0] => true
 | _ => false
def cBalloc (P : Program) (e : TypeId) : Option AO :=
 match zcells P e with
 | some (_, z) =>
  if isBuilderZero z.cells.toList then
   match P.underlying e with
   | some (.struct fs) => match fs[1]? with
    | some fd => match P.underlying fd.type with
     | some (.slice u) => some (.balloc e u)
     | _ => none
    | none => none
   | _ => none
  else none
 | none => none
theorem balloc_sound {forb : List Nat} {nw : Option Nat} {e : TypeId} {ao : AO} {pv : PV} {ob' : List AObj} (hc : cBalloc P e = some ao) (R : RepW c F l s.ob w) (he : ev forb nw s ao = some (pv, ob')) :
  ∃ v w' l', (Instr.alloc e true (.tuple #[])).run P w = .ok v w' ∧ RepW c F l' ob' w' ∧ Mono w F l w' F l' ∧ R1 w' F l' pv v := by
 unfold cBalloc at hc
 split at hc
 ·rename_i i z hz
  split at hc
  ·rename_i hzero
   split at hc
   ·split at hc
    ·split at hc
     ·rename_i u _
      simp only [Option.some.injEq] at hc; subst hc
      obtain ⟨h1, h2, h3, h4⟩ := zcells_spec hz
      simp only [ev] at he
      split at he
      ·simp only [Option.some.injEq, Prod.mk.injEq] at he
       obtain ⟨rfl, rfl⟩ := he
       have hcv : z.cells.toList = [.pointer none, .slice none 0 0] := by
        unfold isBuilderZero at hzero
        split at hzero
        ·assumption
        ·cases hzero
       have hcells : z.cells = ([.pointer none, .slice none 0 0] : List Value).toArray := by rw [← hcv]
       have hB : Below w.heap.size w (w.alloc (.cells z.cells e)) := below_alloc
       obtain ⟨R1', m1⟩ := R.ext hB
       have hnone : l s.ob.length = none := by
        cases hl : l s.ob.length with
        | none => rfl
        | some L => exact absurd (R.lt _ L hl) (Nat.lt_irrefl _)
       let L1 : Loc := ⟨0, 0, 0, 0, 0, 1, true, false⟩
       obtain ⟨R2, m2⟩ := R1'.new (ob' := s.ob ++ [.buf u []]) (L := L1) (i := s.ob.length) (a := .buf u []) hnone (by simp) (by simp) (by simp) (fun j hj hlt => by
         simp only [List.length_append, List.length_cons, List.length_nil] at hlt
         rw [List.getElem?_append_left (by omega)])
        (fun m => ⟨rfl, rfl, rfl, rfl, rfl, .inl ⟨rfl, rfl⟩⟩) (fun h => nomatch h)
       have hnone2 : (updL l s.ob.length L1) (s.ob.length + 1) = none := by
        rw [updL_ne _ _ (by omega)]
        cases hl : l (s.ob.length + 1) with
        | none => rfl
        | some L => have := R.lt _ L hl; omega
       let L2 : Loc := ⟨w.heap.size, 0, 0, 0, 0, 0, false, true⟩
       obtain ⟨R3, m3⟩ := R2.new (ob' := s.ob ++ [.buf u []] ++ [.tbox e [.nilp, .osl s.ob.length 0 0]]) (L := L2) (i := s.ob.length + 1) (a := .tbox e [.nilp, .osl s.ob.length 0 0]) hnone2 (by simp) (by simp)
        (by rw [List.getElem?_append_right (by simp)]; simp) (fun j hj hlt => by
         simp only [List.length_append, List.length_cons, List.length_nil] at hlt
         rw [List.getElem?_append_left (by simp; omega)])
        (fun m => ⟨rfl, rfl, [.pointer none, .slice none 0 0], by
          show (w.alloc (.cells z.cells e)).heap[w.heap.size]? = _
          rw [alloc_heap, hcells], .cons .nilp (.cons (.osl (L := L1) (by rw [updL_ne _ _ (by omega), updL_same]) rfl (by simp [L1]) ⟨_, _, _, rfl⟩ fun _ => .inl ⟨rfl, rfl, rfl, rfl⟩) .nil), by simp [Value.oneCell']⟩)
        (fun _ => ⟨R.below.size, by show w.heap.size < (w.heap.push _).size; simp, fun hF => absurd (R.flt _ hF) (Nat.lt_irrefl _), fun o L' ho hn e => by
         by_cases ho' : o = s.ob.length
         ·subst ho'; rw [updL_same] at ho; cases ho; cases hn
         ·rw [updL_ne _ _ ho'] at ho
          have := (R.own o L' ho hn).2.1; simp only [L2] at e; omega⟩)
       exact ⟨_, _, _, by simp [Instr.alloc, zeroValue_run h1 h2, newVar, newRow]; rfl, R3, (m1.trans m2).trans m3, .ref (updL_same _ _ _) rfl⟩
      ·cases he
     ·cases hc
    ·cases hc
   ·cases hc
  ·cases hc
 ·cases hc
def isByteInfo (i : TypeInfo) : Bool := (match i.zero with | some (.int .u8 0) => true | _ => false) && i.size == 1 && i.bytes == 1
def cApps (P : Program) (t t' : TypeId) (x y : Operand) : Option AO :=
 match P.underlying t with
 | some (.slice e) => match P.info? e, P.underlying t' with
  | some i, some .string => if isByteInfo i then some (.apps e (opx x) (opx y)) else none
  | _, _ => none
 | _ => none
theorem strCells_mk (b : List UInt8) : Lib.strCells ⟨b.toArray⟩ = Lib.byteCells b := by
 rw [Lib.strCells_eq]
theorem apps_sound {forb : List Nat} {nw : Option Nat} {t t' ty : TypeId} {x y : Operand} {ao : AO} {pv : PV} {ob' : List AObj} (hc : cApps P t t' x y = some ao) (R : RepW c F l s.ob w) (hs : SlotsOk w F l s a) (he : ev forb nw s ao = some (pv, ob')) :
  ∃ v w' F' l', (Builtin.append_ #[t, t'] ty #[a.eval x, a.eval y]).run P w = .ok v w' ∧ RepW c F' l' ob' w' ∧ Mono w F l w' F' l' ∧ R1 w' F' l' pv v := by
 have hx := opx_sound hs x
 have hy := opx_sound hs y
 unfold cApps at hc
 split at hc
 ·rename_i e hu
  split at hc
  ·rename_i i hi hu'
   split at hc
   ·rename_i hby
    simp only [Option.some.injEq] at hc; subst hc
    simp only [isByteInfo, Bool.and_eq_true, beq_iff_eq] at hby
    obtain ⟨⟨hz0, hsz⟩, hbt⟩ := hby
    have hz : i.zero = some (.int .u8 0) := by
     split at hz0
     ·assumption
     ·cases hz0
    simp only [ev] at he
    split at he
    ·rename_i b hvy
     rw [hvy] at hy
     split at he
     ·rename_i hbl
      split at he
      ·rename_i o n hvx
       rw [hvx] at hx
       split at he
       ·cases he
       ·split at he
        ·rename_i u bs hob
         split at he
         ·rename_i hcond
          obtain ⟨rfl, hn, hbsl⟩ := hcond
          simp only [Option.some.injEq, Prod.mk.injEq] at he
          obtain ⟨rfl, rfl⟩ := he
          rw [hy.str_inv]
          generalize a.eval x = v at hx
          have hbsz : (⟨b.toArray⟩ : ByteArray).size = b.length := by simp [ByteArray.size]
          obtain ⟨L, g1, g2, g3⟩ := buf_val R hx hob hn
          obtain ⟨h3, h4, h5, h6, h7, h8⟩ := g2
          have hnl : n + b.length ≤ 33554432 := by omega
          have hstr : (Lib.strCells ⟨b.toArray⟩) = Lib.byteCells b := strCells_mk b
          rcases g3 with ⟨k1, k2, k3⟩ | ⟨k1, k2, k3⟩
          ·-- nothing yet
           subst k2; subst k3
           have hn0 : n = 0 := by simpa using hn
           subst hn0
           obtain ⟨v', w', hrun, hown', ⟨gg1, gg2, gg3, gg4, gg5⟩, hnil⟩ := Lib.run_append_own_stringF (P := P) w w.heap.size t t' ty u i hu hu' hi hz hsz hbt (.slice none 0 0) 0 [] (World.ownsRowF_nil w _ _ _) ⟨b.toArray⟩ (by rw [hbsz]; unfold maxLen; omega) (by rw [hbsz]; omega) (Nat.le_refl _)
           rw [hbsz, hstr] at hown'
           simp only [Nat.zero_add, List.nil_append] at hown'
           by_cases hbe : b = []
           ·subst hbe
            have hv' : v' = .slice none 0 0 := hnil.2 ⟨rfl, by simp [ByteArray.size]⟩
            obtain ⟨R', m'⟩ := R.change (w' := w') (L := L) (L' := L) (a' := .buf u ([] ++ [])) g1 (R.lt o L g1) gg1 gg2 gg3 gg4 (fun k hk _ => gg5 k hk (by simp [Value.ownBlock])) (.inl rfl) (fun h => by rw [k1] at h; cases h)
             (fun m => ⟨h3, h4, h5, h6, h7, .inl ⟨k1, rfl⟩⟩)
            exact ⟨v', w', F, _, hrun, R', m', by rw [hv']; exact .osl (updL_same _ _ _) h3 (by rw [h4]; simp) ⟨_, _, _, rfl⟩ fun _ => .inl ⟨k1, rfl, rfl, rfl⟩⟩
           ·have hbpos : 0 < b.length := List.length_pos_iff.2 hbe
            rcases hown'.2 with ⟨q, q'⟩ | ⟨g, cap, cur, fz, hv', hg1, hg2, hg3, hg4, hg5, hg6, hg7⟩
            ·omega
            ·have hlt : g < w'.heap.size := lt_of_cells hg2
             let L' : Loc := ⟨g, 0, 0, cap, b.length, 1, false, false⟩
             obtain ⟨R', m'⟩ := R.change (w' := w') (L := L) (L' := L') (a' := .buf u ([] ++ b)) g1 (R.lt o L g1) gg1 gg2 gg3 gg4 (fun k hk _ => gg5 k hk (by simp [Value.ownBlock])) (.inr ⟨h3, rfl, by rw [h4]; exact hbpos⟩) (fun _ => .inr ⟨hg1, hlt⟩)
              (fun m => ⟨rfl, rfl, rfl, rfl, rfl, .inr ⟨rfl, hbe, cur, fz, hg2, by simpa using hg3, hg4, hg5, by simpa using hg6, by simpa using hg7⟩⟩)
             refine ⟨v', w', F, _, hrun, R', m', ?_⟩
             rw [hv', Nat.zero_add]
             exact .osl (updL_same _ _ _) rfl (by simp [L']) ⟨_, _, _, rfl⟩ fun _ => .inr ⟨rfl, Nat.le_refl _, _, rfl, fun _ => by simp [L']⟩
          ·rcases h8 with ⟨q, _⟩ | ⟨q1, q2, cc, fz, q3, q4, q5, q6, q7, q8⟩
           ·rw [q] at k1; cases k1
           ·by_cases hroom : n + b.length ≤ L.cap
            ·have hrun := Lib.run_append_room_stringF (P := P) w t t' ty u i hu hu' hi hsz L.blk n L.cap cc fz q3 (by omega) ⟨b.toArray⟩ (by rw [hbsz]; exact hroom) (by rw [hbsz]; omega)
             rw [hbsz, hstr] at hrun
             have hb4 := setRow_below (w := w) (g := L.blk) (cc.toList.take n ++ Lib.byteCells b ++ cc.toList.drop (n + b.length)).toArray
             by_cases hbe : b = []
             ·subst hbe
              obtain ⟨R', m'⟩ := R.change (L := L) (L' := L) (a' := .buf u (bs ++ [])) g1 (R.lt o L g1) hb4.1 hb4.2.1 hb4.2.2.1 (Nat.le_of_eq hb4.2.2.2.symm) (fun k _ hk => setRow_other w _ _ _ (hk k1)) (.inl rfl) (fun _ => .inl ⟨k1, rfl⟩)
               (fun m => ⟨h3, by simpa using h4, h5, h6, h7, .inr ⟨k1, by simpa using q2, _, fz, setRow_heap w L.blk cc _ u fz q3, by simpa using q4, by simpa using q5, q6, by simp [Lib.byteCells]; omega, by
                rw [List.append_nil, hn, show Lib.byteCells ([] : List UInt8) = [] from rfl, List.append_nil, List.length_nil, Nat.add_zero, List.take_append_drop]; exact q8⟩⟩)
              refine ⟨_, _, F, _, by rw [k3]; exact hrun, R', m', ?_⟩
              exact .osl (updL_same _ _ _) h3 (by rw [h4, hn]; simp) ⟨_, _, _, rfl⟩ fun _ => .inr ⟨k1, by omega, _, rfl, fun _ => by simp [h6, h7]⟩
             ·have hbpos : 0 < b.length := List.length_pos_iff.2 hbe
              let L' : Loc := ⟨L.blk, 0, 0, L.cap, (bs ++ b).length, 1, false, false⟩
              obtain ⟨R', m'⟩ := R.change (L := L) (L' := L') (a' := .buf u (bs ++ b)) g1 (R.lt o L g1) hb4.1 hb4.2.1 hb4.2.2.1 (Nat.le_of_eq hb4.2.2.2.symm) (fun k _ hk => setRow_other w _ _ _ (hk k1)) (.inr ⟨h3, rfl, by rw [h4]; simp [L']; omega⟩) (fun _ => .inl ⟨k1, rfl⟩)
               (fun m => ⟨rfl, rfl, rfl, rfl, rfl, .inr ⟨rfl, by simp [hbe], _, fz, setRow_heap w L.blk cc _ u fz q3, by simp; omega, by simp [L']; omega, q6, by simp [Lib.byteCells_length, L']; omega, by
                have hl : (cc.toList.take n ++ Lib.byteCells b).length = (bs ++ b).length := by simp [Lib.byteCells_length]; omega
                rw [← hl]
                show List.take _ (cc.toList.take n ++ Lib.byteCells b ++ cc.toList.drop (n + b.length)) = _
                rw [List.take_left, Lib.byteCells_append, ← q8, hn]⟩⟩)
              refine ⟨_, _, F, _, by rw [k3]; exact hrun, R', m', ?_⟩
              exact .osl (updL_same _ _ _) rfl (by simp [L', hn]) ⟨_, _, _, rfl⟩ fun _ => .inr ⟨rfl, Nat.le_refl _, _, rfl, fun _ => by simp [L']⟩
            ·have hcell : ∀ j x, (Lib.byteCells bs)[j]? = some x → w.cell? ((⟨L.blk, 0, none⟩ : Addr).add j) = some x := by
              intro j x hx
              rw [Addr.add_lit, Nat.zero_add, cell_of_block q3, ← Array.getElem?_toList]
              rw [← q8, List.getElem?_take] at hx
              split at hx
              ·exact hx
              ·cases hx
             have hbnz : 0 < b.length := by omega
             have hrun := Lib.run_append_grow_string (P := P) w t t' ty u i (.int .u8 0) hu hu' hi hz ⟨L.blk, 0, none⟩ n L.cap (Lib.byteCells bs) (by rw [hsz, Lib.byteCells_length]; omega) hcell ⟨b.toArray⟩ (by rw [hbsz]; omega) (by rw [hbsz]; omega) (by rw [hbt, hbsz]; have := fits48 (need := n + b.length) (cap := L.cap) (bytes := 1) (by omega) hnl (by omega); omega)
             rw [hbsz, hstr] at hrun
             have hge := grownCap_ge' w (n + b.length) L.cap u
             have hcm : grownCap w (n + b.length) L.cap u ≤ maxLen := grownCap_le_maxLen w (n + b.length) L.cap u (by unfold maxLen; omega)
             generalize grownCap w (n + b.length) L.cap u = cap at hrun hge hcm
             let L' : Loc := ⟨w.heap.size, 0, 0, cap, (bs ++ b).length, 1, false, false⟩
             obtain ⟨R', m'⟩ := R.change (L := L) (L' := L') (w' := w.drew.alloc (.cells ((Lib.byteCells bs).toArray ++ (Lib.byteCells b).toArray ++ Builtin.zeroCells (Value.int .u8 0).cells (cap - (n + b.length))) u)) (a' := .buf u (bs ++ b)) g1 (R.lt o L g1) rfl rfl rfl (by simp) (fun k hk _ => by
               show (w.heap.push _)[k]? = _
               rw [Array.getElem?_push]; rw [if_neg (by omega)]) (.inr ⟨h3, rfl, by rw [h4]; simp [L']; omega⟩) (fun _ => .inr ⟨Nat.le_refl _, by show w.heap.size < (w.heap.push _).size; simp⟩)
              (fun m => ⟨rfl, rfl, rfl, rfl, rfl, .inr ⟨rfl, by simp [q2], _, (0, 0), drew_alloc_heap w _, Nat.zero_le _, by simp [L']; omega, hcm, by
               have hz1 : (Value.int IntKind.u8 0).cells.size = 1 := rfl
               simp only [Array.size_append, List.size_toArray, size_zeroCells, hz1, Lib.byteCells_length, L']
               omega, by
               have hl : (Lib.byteCells bs ++ Lib.byteCells b).length = (bs ++ b).length := by simp [Lib.byteCells_length]
               simp only [Array.toList_append]
               rw [← hl, List.take_left, Lib.byteCells_append]⟩⟩)
             refine ⟨_, _, F, _, by rw [k3]; exact hrun, R', m', ?_⟩
             exact .osl (updL_same _ _ _) rfl (by simp [L', hn]) ⟨_, _, _, rfl⟩ fun _ => .inr ⟨rfl, Nat.le_refl _, _, rfl, fun _ => by simp [L']⟩
         ·cases he
        ·cases he
      ·cases he
     ·cases he
    ·cases he
   ·cases hc
  ·cases hc
 ·cases hc
theorem usd_sound {forb : List Nat} {nw : Option Nat} {t ty : TypeId} {x : Operand} {pv : PV} {ob' : List AObj} (R : RepW c F l s.ob w) (hs : SlotsOk w F l s a) (he : ev forb nw s (.usd (opx x)) = some (pv, ob')) :
  ∃ v, ob' = s.ob ∧ (Builtin.unsafeSliceData_ #[t] ty #[a.eval x]).run P w = .ok v w ∧ R1 w F l pv v := by
 have hx := opx_sound hs x
 simp only [ev] at he
 split at he
 ·rename_i o n hvx
  rw [hvx] at hx
  split at he
  ·cases he
  ·split at he
   ·rename_i u bs hob
    split at he
    ·rename_i hn
     simp only [Option.some.injEq, Prod.mk.injEq] at he
     obtain ⟨rfl, rfl⟩ := he
     generalize a.eval x = v at hx
     obtain ⟨L, g1, g2, g3⟩ := buf_val R hx hob hn
     obtain ⟨h3, h4, h5, h6, h7, h8⟩ := g2
     rcases g3 with ⟨k1, k2, k3⟩ | ⟨k1, k2, k3⟩
     ·subst k3
      refine ⟨.pointer none, rfl, Lib.run_unsafeSliceData_nil w _ _ _ _, ?_⟩
      rw [if_pos (by rw [hn, k2]; rfl)]; exact .nilp
     ·subst k3
      have hpos : 0 < bs.length := List.length_pos_iff.2 k2
      rcases h8 with ⟨q, _⟩ | ⟨q1, q2, cc, fz, q3, q4, q5, q6, q7, q8⟩
      ·rw [q] at k1; cases k1
      ·refine ⟨_, rfl, Lib.run_unsafeSliceData_row w _ _ _ _ _ (by omega), ?_⟩
       rw [if_neg (by omega)]
       exact .lref g1 h3 (by omega) ⟨_, rfl⟩ fun _ => ⟨by omega, by simp [h6, h7]⟩
    ·cases he
   ·cases he
 ·cases he
def cUst (P : Program) (pt : TypeId) (x y : Operand) : Option AO :=
 match P.underlying pt with
 | some (.pointer e) => if P.cellsOf e = 1 then some (.ust e (opx x) (opx y)) else none
 | _ => none
theorem ust_sound {forb : List Nat} {nw : Option Nat} {pt it ty : TypeId} {x y : Operand} {ao : AO} {pv : PV} {ob' : List AObj} (hc : cUst P pt x y = some ao) (R : RepW c F l s.ob w) (hs : SlotsOk w F l s a) (he : ev forb nw s ao = some (pv, ob')) :
  ∃ v w' F' l', (Builtin.unsafeString_ #[pt, it] ty #[a.eval x, a.eval y]).run P w = .ok v w' ∧ RepW c F' l' ob' w' ∧ Mono w F l w' F' l' ∧ R1 w' F' l' pv v := by
 have hx := opx_sound hs x
 have hy := opx_sound hs y
 unfold cUst at hc
 split at hc
 ·rename_i e hu
  split at hc
  ·rename_i hce
   simp only [Option.some.injEq] at hc; subst hc
   simp only [ev] at he
   split at he
   ·rename_i o len k n hvx hvy
    rw [hvx] at hx
    rw [hvy] at hy
    split at he
    ·cases he
    ·split at he
     ·rename_i u bs hob
      split at he
      ·rename_i hcond
       obtain ⟨rfl, hbl, hnl, hpos, hsm, rfl⟩ := hcond
       simp only [Option.some.injEq, Prod.mk.injEq] at he
       obtain ⟨rfl, rfl⟩ := he
       rw [hy.int_inv]
       generalize a.eval x = v at hx
       cases hx with
       | @lref l o i off len L v ho hb hlen hv hh =>
        rcases R.objs o _ hob with h1 | ⟨L', h1, h2⟩
        ·simp at h1
        rw [ho] at h1; cases h1
        obtain ⟨h3, h4, h5, h6, h7, h8⟩ := h2
        rcases h8 with ⟨q, q'⟩ | ⟨q1, q2, cc, fz, q3, q4, q5, q6, q7, q8⟩
        ·rw [q'] at hbl; simp at hbl; omega
        ·obtain ⟨hst, hveq⟩ := hh (by omega)
         have hveq' : v = .pointer (some ⟨L.blk, 0, none⟩) := by rw [hveq]; simp [h6, h7]
         subst hveq'
         have hcell : ∀ j x, bs[j]? = some x → w.cell? ((⟨L.blk, 0, none⟩ : Addr).add j) = some (.int .u8 x.toNat) := by
          intro j x hx
          rw [Addr.add_lit, Nat.zero_add, cell_of_block q3, ← Array.getElem?_toList]
          have hx' : (Lib.byteCells bs)[j]? = some (.int .u8 x.toNat) := by simp [Lib.byteCells, hx]
          rw [← q8, List.getElem?_take] at hx'
          split at hx'
          ·exact hx'
          ·cases hx'
         have hrun := Lib.run_unsafeString_row (P := P) w pt it ty u hu hce L.blk cc.size (by simp [World.shape?, q3]) bs q2 (by omega) (by omega) hcell
         rw [hbl] at hrun
         rw [hnl]
         have hfz : (w.freeze ⟨L.blk, 0, none⟩ len).heap[L.blk]? = some (.cells cc u (if fz.1 = fz.2 then (0, len) else (min fz.1 0, max fz.2 len))) := by
          unfold World.freeze
          rw [if_neg (by omega)]
          simp only [Array.getElem?_modify, if_true, q3, Option.map_some]
          split <;> simp_all
         obtain ⟨R', m'⟩ := R.change (L := L) (L' := L) (w' := w.freeze ⟨L.blk, 0, none⟩ len) (a' := .buf u bs) ho (R.lt o L ho) (by unfold World.freeze; split <;> rfl) (by unfold World.freeze; split <;> rfl) (by unfold World.freeze; split <;> rfl) (by unfold World.freeze; split <;> simp)
          (fun k hk hne => by
           unfold World.freeze; split
           ·rfl
           ·simp only [Array.getElem?_modify]; rw [if_neg (Ne.symm (hne q1))]) (.inl rfl) (fun _ => .inl ⟨q1, rfl⟩)
          (fun m => ⟨h3, h4, h5, h6, h7, .inr ⟨q1, q2, cc, _, hfz, by split <;> simp <;> omega, q5, q6, q7, q8⟩⟩)
         have hset : s.ob.set o (.buf u bs) = s.ob := by
          apply List.ext_getElem?
          intro j
          by_cases hj : o = j
          ·subst hj; rw [hob, List.getElem?_set_self (R.lt o L ho)]
          ·rw [List.getElem?_set_ne hj]
         rw [hset] at R'
         exact ⟨_, _, F, _, hrun, R', m', .str _⟩
      ·cases he
     ·cases he
   ·rename_i k n hvx hvy
    rw [hvx] at hx
    rw [hvy] at hy
    split at he
    ·rename_i hcond
     obtain ⟨rfl, rfl⟩ := hcond
     simp only [Option.some.injEq, Prod.mk.injEq] at he
     obtain ⟨rfl, rfl⟩ := he
     rw [hy.int_inv]
     generalize a.eval x = v at hx
     cases hx
     exact ⟨_, w, F, l, Lib.run_unsafeString_none w pt it ty none, R, Mono.refl w F l, .str _⟩
    ·cases he
   ·cases he
  ·cases hc
 ·cases hc
end
end Go.Proofs.YtdgpiobmncohjaaGreatDoor.Aw
