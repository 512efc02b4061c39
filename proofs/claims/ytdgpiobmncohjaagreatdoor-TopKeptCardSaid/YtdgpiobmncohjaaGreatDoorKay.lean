/-
 The nodes of a tree, each by itself.; Which nodes stand in pages. Plain Lean.; The bytes of a leaf and of an inner node are read, as slices over boxes. Written by a program (mkkread.py).; The array of pages: its small functions; which mishap waits.
-/
import Derived.Test.YtdgpiobmncohjaaGreatDoorKax
import Derived.Test.YtdgpiobmncohjaaGreatDoorKav
import Derived.Test.YtdgpiobmncohjaaGreatDoorQa
import Derived.Test.YtdgpiobmncohjaaGreatDoorQb
import Derived.Test.YtdgpiobmncohjaaGreatDoorQc
import Derived.Test.YtdgpiobmncohjaaGreatDoorQp
import Derived.Test.YtdgpiobmncohjaaGreatDoorQl
import Derived.Test.YtdgpiobmncohjaaGreatDoorQn
import Derived.Test.YtdgpiobmncohjaaGreatDoorQs
import Derived.Test.YtdgpiobmncohjaaGreatDoorQr
import Derived.Test.YtdgpiobmncohjaaGreatDoorQw
import Derived.Test.YtdgpiobmncohjaaGreatDoorKat
import Derived.Test.YtdgpiobmncohjaaGreatDoorKaw
set_option linter.all false
set_option maxRecDepth 100000
namespace Go.Proofs.YtdgpiobmncohjaaGreatDoor.Aw
open Go.RowKit Ar
def Loc1 [Fr] (ob : List AObj) : NE → Prop
 | (0, k, ks) => ks = [] ∧ ∃ q off c, LeafAt ob k q off c
 | (h + 1, k, ks) => ∃ q off c, InnerAt ob h k q off c ks ∧ ∀ y ∈ ks, 4 ≤ y.s ∧ y.s ≤ 8
structure Flat [Fr] (ob : List AObj) (L : List NE) : Prop where
 loc : ∀ x ∈ L, Loc1 ob x
 nd : (L.map fun x => x.2.1.p).Nodup
 post : ∀ (j : Nat) (x : NE), L[j]? = some x → ∀ y ∈ x.2.2, ∃ (i : Nat) (z : NE), i < j ∧ L[i]? = some z ∧ z.1 + 1 = x.1 ∧ z.2.1 = y
 ok : ∀ x ∈ L, OkL x.2.1.l ∧ 1 ≤ x.2.1.s ∧ x.2.1.s ≤ 8
theorem Flat.node [Fr] {ob : List AObj} {L : List NE} (hF : Flat ob L) : ∀ (j : Nat) (x : NE), L[j]? = some x → Node ob x.1 x.2.1 := by
 intro j
 induction j using Nat.strongRecOn with
 | _ j ih =>
  rintro ⟨h, k, ks⟩ hx
  have hl := hF.loc _ (List.mem_of_getElem? hx)
  cases h with
  | zero => exact hl.2
  | succ h =>
   obtain ⟨q, off, c, hI, hs⟩ := hl
   refine ⟨q, off, c, ks, hI, fun y hy => ⟨?_, hs y hy⟩⟩
   obtain ⟨i, z, hi, hz, h1, h2⟩ := hF.post j _ hx y hy
   have := ih i hi z hz
   rw [h2] at this
   have e : z.1 = h := by simpa using h1
   rwa [e] at this
theorem ok_part {A W B : List Xt} (h : OkL (A ++ (W ++ B))) : OkL W := ok_mid h rfl
theorem flat_of [Fr] : ∀ {h : Nat} {ob : List AObj} {k : Kd} {L : List NE}, Node ob h k → OkL k.l → 1 ≤ k.s → k.s ≤ 8 → PO ob h k L → Flat ob L ∧ (∃ L' ks, L = L' ++ [(h, k, ks)]) ∧ ∀ x ∈ L, x.2.1.p ∈ k.fp
 | 0, ob, k, L, hN, hok, h1, h8, hP => by
  obtain ⟨q, off, c, hL⟩ := hN
  have hP : L = [(0, k, [])] := hP
  subst hP
  refine ⟨⟨fun x hx => ?_, by simp, fun j x hx y hy => ?_, fun x hx => ?_⟩, ⟨[], [], rfl⟩, fun x hx => ?_⟩
  ·simp only [List.mem_singleton] at hx; subst hx; exact ⟨rfl, q, off, c, hL⟩
  ·have := List.mem_of_getElem? hx
   simp only [List.mem_singleton] at this; subst this; cases hy
  ·simp only [List.mem_singleton] at hx; subst hx; exact ⟨hok, h1, h8⟩
  ·simp only [List.mem_singleton] at hx; subst hx; rw [hL.fp]; simp
 | h + 1, ob, k, L, hN, hok, h1, h8, hP => by
  obtain ⟨q, off, c, ks, Ls, hI, hk, hLl, hLs, rfl⟩ := hP
  have hnd := hI.nd
  rw [hI.fp] at hnd
  have hok' := hok
  rw [hI.fl] at hok'
  -- each part
  have part : ∀ (i : Nat) (x : Kd) (Lx : List NE), ks[i]? = some x → Ls[i]? = some Lx → Flat ob Lx ∧ (∃ L' kk, Lx = L' ++ [(h, x, kk)]) ∧ ∀ z ∈ Lx, z.2.1.p ∈ x.fp := by
   intro i x Lx hx hLx
   have hm := List.mem_of_getElem? hx
   have hokx : OkL x.l := by
    obtain ⟨hi, rfl⟩ := List.getElem?_eq_some_iff.1 hx
    have e : ks.flatMap (·.l) = (ks.take i).flatMap (·.l) ++ (ks[i].l ++ (ks.drop (i + 1)).flatMap (·.l)) := by rw [← List.flatMap_cons, ← List.drop_eq_getElem_cons hi, ← List.flatMap_append, List.take_append_drop]
    rw [e] at hok'
    exact ok_part hok'
   exact flat_of (hk x hm).1 hokx (by have := (hk x hm).2.1; omega) (hk x hm).2.2 (hLs i x Lx hx hLx)
  have hget : ∀ (i : Nat) (Lx : List NE), Ls[i]? = some Lx → ∃ x, ks[i]? = some x := fun i Lx h => by
   have := (List.getElem?_eq_some_iff.1 h).1
   exact ⟨ks[i], List.getElem?_eq_getElem (by omega)⟩
  have hmemF : ∀ z ∈ Ls.flatten, ∃ i x Lx, ks[i]? = some x ∧ Ls[i]? = some Lx ∧ z ∈ Lx := fun z hz => by
   obtain ⟨Lx, hLx, hz⟩ := List.mem_flatten.1 hz
   obtain ⟨i, hi, rfl⟩ := List.getElem_of_mem hLx
   obtain ⟨x, hx⟩ := hget i _ (List.getElem?_eq_getElem hi)
   exact ⟨i, x, _, hx, List.getElem?_eq_getElem hi, hz⟩
  have hpk : ∀ z ∈ Ls.flatten, z.2.1.p ∈ ks.flatMap (·.fp) := fun z hz => by
   obtain ⟨i, x, Lx, hx, hLx, hz⟩ := hmemF z hz
   exact List.mem_flatMap.2 ⟨x, List.mem_of_getElem? hx, (part i x Lx hx hLx).2.2 z hz⟩
  have hn2 := (List.nodup_cons.1 hnd)
  have hn3 := (List.nodup_cons.1 hn2.2)
  refine ⟨⟨fun x hx => ?_, ?_, fun j x hx y hy => ?_, fun x hx => ?_⟩, ⟨_, _, rfl⟩, fun x hx => ?_⟩
  ·rcases List.mem_append.1 hx with hx | hx
   ·obtain ⟨i, y, Lx, h1, h2, h3⟩ := hmemF x hx
    exact (part i y Lx h1 h2).1.loc x h3
   ·simp only [List.mem_singleton] at hx; subst hx
    exact ⟨q, off, c, hI, fun y hy => (hk y hy).2⟩
  ·rw [List.map_append, List.map_cons, List.map_nil, List.nodup_append]
   refine ⟨?_, by simp, fun a ha b hb => ?_⟩
   ·-- parts are apart
    have key : ∀ (ks : List Kd) (Ls : List (List NE)), Ls.length = ks.length → (ks.flatMap (·.fp)).Nodup → (∀ (i : Nat) (x : Kd) (Lx : List NE), ks[i]? = some x → Ls[i]? = some Lx → (Lx.map fun x => x.2.1.p).Nodup ∧ ∀ z ∈ Lx, z.2.1.p ∈ x.fp) → (Ls.flatten.map fun x => x.2.1.p).Nodup := by
     intro ks Ls
     induction Ls generalizing ks with
     | nil => intro _ _ _; simp
     | cons Lx Ls ih =>
      intro hl hn hp
      match ks, hl with
      | x :: ks, hl =>
       rw [List.flatMap_cons, List.nodup_append] at hn
       rw [List.flatten_cons, List.map_append, List.nodup_append]
       refine ⟨(hp 0 x Lx rfl rfl).1, ih ks (by simpa using hl) hn.2.1 (fun i y Ly h1 h2 => hp (i + 1) y Ly h1 h2), fun a ha b hb => ?_⟩
       obtain ⟨z, hz, rfl⟩ := List.mem_map.1 ha
       obtain ⟨z', hz', rfl⟩ := List.mem_map.1 hb
       obtain ⟨Ly, hLy, hz''⟩ := List.mem_flatten.1 hz'
       obtain ⟨i, hi, rfl⟩ := List.getElem_of_mem hLy
       have hi' : i < ks.length := by simp at hl; omega
       have h2 := (hp (i + 1) ks[i] Ls[i] (by simp [hi']) (by simp [hi])).2 z' hz''
       exact hn.2.2 _ ((hp 0 x Lx rfl rfl).2 z hz) _ (List.mem_flatMap.2 ⟨ks[i], List.getElem_mem hi', h2⟩)
    exact key ks Ls hLl hn3.2 fun i x Lx h1 h2 => ⟨(part i x Lx h1 h2).1.nd, (part i x Lx h1 h2).2.2⟩
   ·obtain ⟨z, hz, rfl⟩ := List.mem_map.1 ha
    simp only [List.mem_singleton] at hb
    subst hb
    intro e
    have := hpk z hz
    exact hn2.1 (by rw [← e]; simp [this])
  ·-- those ahead
   have step : ∀ (Ls : List (List NE)) (i : Nat) (Lx : List NE), Ls[i]? = some Lx → ∃ n, ∀ j, j < Lx.length → Ls.flatten[n + j]? = Lx[j]? ∧ n + Lx.length ≤ Ls.flatten.length := by
    intro Ls
    induction Ls with
    | nil => intro i Lx h; simp at h
    | cons L0 Ls ih =>
     intro i Lx h
     cases i with
     | zero =>
      simp only [List.getElem?_cons_zero, Option.some.injEq] at h
      subst h
      exact ⟨0, fun j hj => by simp [List.getElem?_append, hj]⟩
     | succ i =>
      obtain ⟨n, hn⟩ := ih i Lx h
      refine ⟨L0.length + n, fun j hj => ?_⟩
      obtain ⟨h1, h2⟩ := hn j hj
      rw [List.flatten_cons, List.getElem?_append_right (by omega), show L0.length + n + j - L0.length = n + j by omega]
      exact ⟨h1, by rw [List.length_append]; omega⟩
   by_cases hj : j < Ls.flatten.length
   ·rw [List.getElem?_append_left hj] at hx
    -- which part
    have which : ∀ (Ls : List (List NE)) (j : Nat) (x : NE), Ls.flatten[j]? = some x → ∃ (i : Nat) (Lx : List NE) (n j' : Nat), Ls[i]? = some Lx ∧ j = n + j' ∧ Lx[j']? = some x ∧ ∀ m, m < Lx.length → Ls.flatten[n + m]? = Lx[m]? := by
     intro Ls
     induction Ls with
     | nil => intro j x h; simp at h
     | cons L0 Ls ih =>
      intro j x h
      rw [List.flatten_cons, List.getElem?_append] at h
      split at h
      ·rename_i hlt
       exact ⟨0, L0, 0, j, rfl, by omega, h, fun m hm => by rw [Nat.zero_add, List.flatten_cons, List.getElem?_append_left hm]⟩
      ·rename_i hge
       obtain ⟨i, Lx, n, j', h1, h2, h3, h4⟩ := ih _ _ h
       exact ⟨i + 1, Lx, L0.length + n, j', h1, by omega, h3, fun m hm => by rw [List.flatten_cons, List.getElem?_append_right (by omega), show L0.length + n + m - L0.length = n + m by omega]; exact h4 m hm⟩
    obtain ⟨i, Lx, n, j', h1, rfl, h3, h4⟩ := which Ls j x hx
    obtain ⟨y', hy'⟩ := hget i Lx h1
    obtain ⟨i2, z, hi2, hz, h5, h6⟩ := (part i y' Lx hy' h1).1.post j' x h3 y hy
    have hlt := (List.getElem?_eq_some_iff.1 hz).1
    refine ⟨n + i2, z, by omega, ?_, h5, h6⟩
    rw [List.getElem?_append_left (by have := (List.getElem?_eq_some_iff.1 ((h4 i2 hlt).trans hz)).1; omega), h4 i2 hlt]
    exact hz
   ·rw [List.getElem?_append_right (by omega)] at hx
    have hj0 : j - Ls.flatten.length = 0 := by
     have := (List.getElem?_eq_some_iff.1 hx).1
     simp only [List.length_cons, List.length_nil] at this; omega
    rw [hj0] at hx
    simp only [List.getElem?_cons_zero, Option.some.injEq] at hx
    subst hx
    obtain ⟨i, hi, rfl⟩ := List.getElem_of_mem (show y ∈ ks from hy)
    have hi' : i < Ls.length := by omega
    obtain ⟨_, ⟨L', kk, e⟩, _⟩ := part i ks[i] Ls[i] (List.getElem?_eq_getElem hi) (List.getElem?_eq_getElem hi')
    obtain ⟨n, hn⟩ := step Ls i Ls[i] (List.getElem?_eq_getElem hi')
    have hlt : L'.length < Ls[i].length := by rw [e]; simp
    obtain ⟨g1, g2⟩ := hn L'.length hlt
    refine ⟨n + L'.length, (h, ks[i], kk), by omega, ?_, rfl, rfl⟩
    rw [List.getElem?_append_left (by omega), g1, e, List.getElem?_append_right (Nat.le_refl _), Nat.sub_self]; rfl
  ·rcases List.mem_append.1 hx with hx | hx
   ·obtain ⟨i, y, Lx, h1, h2, h3⟩ := hmemF x hx
    exact (part i y Lx h1 h2).1.ok x h3
   ·simp only [List.mem_singleton] at hx; subst hx
    exact ⟨hok, h1, h8⟩
  ·rcases List.mem_append.1 hx with hx | hx
   ·rw [hI.fp]; simp only [List.mem_cons]; exact .inr (.inr (hpk x hx))
   ·simp only [List.mem_singleton] at hx; subst hx; rw [hI.fp]; simp
open Go.RowKit Ar
structure Ks where
 a : Int
 l : List Xt
 n : Nat
abbrev Pgs := Nat → Option (Int × List UInt8)
def inPg (pg : Pgs) (a : Int) (x : Int × List UInt8) : Prop := ∃ i : Nat, a = (i : Int) ∧ i < 256 ∧ pg i = some x
def ksK (x : Ks) : Lf.Kd := ⟨keyX x.l, x.a⟩
def Sto (pg : Pgs) : Nat → Int → List Xt → Nat → Prop
 | 0, a, l, n => LeafP l ∧ n = l.length ∧ inPg pg a (2, Lf.recG Lf.entE l)
 | h + 1, a, l, n => ∃ ks : List Ks, (∀ x ∈ ks, Sto pg h x.a x.l x.n ∧ 4 ≤ x.n ∧ x.n ≤ 8) ∧ n = ks.length ∧ l = ks.flatMap (·.l) ∧ Lf.kidsB (ks.map ksK) = true ∧ inPg pg a (3, Lf.recG Lf.entK (ks.map ksK))
theorem Sto.at_ {pg : Pgs} {h : Nat} {a : Int} {l : List Xt} {n : Nat} (hS : Sto pg h a l n) : 0 ≤ a ∧ a < 256 := by
 cases h with
 | zero => obtain ⟨_, _, i, rfl, hi, _⟩ := hS; omega
 | succ h => obtain ⟨ks, _, _, _, _, i, rfl, hi, _⟩ := hS; omega
def PgLe (p q : Pgs) : Prop := ∀ i x, p i = some x → q i = some x
theorem PgLe.refl (p : Pgs) : PgLe p p := fun _ _ h => h
theorem PgLe.trans {p q r : Pgs} (h : PgLe p q) (k : PgLe q r) : PgLe p r := fun i x hx => k i x (h i x hx)
theorem inPg.up {p q : Pgs} (hp : PgLe p q) {a : Int} {x : Int × List UInt8} (h : inPg p a x) : inPg q a x := by
 obtain ⟨i, h1, h2, h3⟩ := h
 exact ⟨i, h1, h2, hp i x h3⟩
theorem Sto.up {p q : Pgs} (hp : PgLe p q) : ∀ {h : Nat} {a : Int} {l : List Xt} {n : Nat}, Sto p h a l n → Sto q h a l n
 | 0, a, l, n, ⟨h1, h2, h3⟩ => ⟨h1, h2, h3.up hp⟩
 | h + 1, a, l, n, ⟨ks, h1, h2, h3, h4, h5⟩ => ⟨ks, fun x hx => ⟨(h1 x hx).1.up hp, (h1 x hx).2⟩, h2, h3, h4, h5.up hp⟩
theorem leaf_back {l : List Xt} (h : LeafP l) : Lf.readG Lf.entE Lf.exAt 10 Lf.leafB (Lf.recG Lf.entE l) = (l, 0) :=
 Lf.read_writeG (by decide) Lf.entE_len h.2.1 (fun x hx => Lf.dec_ext x (Lf.leaf_fit (leafB_of h) x hx)) (leafB_of h)
theorem inner_back {l : List Lf.Kd} (h : Lf.kidsB l = true) : Lf.readG Lf.entK Lf.kdAt 5 Lf.kidsB (Lf.recG Lf.entK l) = (l, 0) :=
 Lf.read_writeG (by decide) Lf.entK_len (Lf.kidsB_iff.1 h).2.1 (fun x hx => Lf.dec_kid x (Lf.kids_fit' h x hx)) h
theorem inPg.fn {pg : Pgs} {a : Int} {x y : Int × List UInt8} (h : inPg pg a x) (k : inPg pg a y) : x = y := by
 obtain ⟨i, rfl, _, h3⟩ := h
 obtain ⟨j, e, _, k3⟩ := k
 have : i = j := by omega
 subst this
 rw [h3] at k3; exact Option.some.inj k3
theorem sto_fun {pg : Pgs} : ∀ {h : Nat} {a : Int} {l l' : List Xt} {n n' : Nat}, Sto pg h a l n → Sto pg h a l' n' → l = l'
 | 0, a, l, l', n, n', ⟨h1, h2, h3⟩, ⟨k1, k2, k3⟩ => by
  have e := congrArg Prod.snd (h3.fn k3)
  simp only at e
  have a1 := leaf_back h1
  rw [e, leaf_back k1] at a1
  exact (congrArg Prod.fst a1).symm
 | h + 1, a, l, l', n, n', ⟨ks, h1, h2, h3, h4, h5⟩, ⟨ks', k1, k2, k3, k4, k5⟩ => by
  have e := congrArg Prod.snd (h5.fn k5)
  simp only at e
  have a1 := inner_back h4
  rw [e, inner_back k4] at a1
  have a2 := congrArg Prod.fst a1
  simp only at a2
  rw [h3, k3]
  have key : ∀ (ks ks' : List Ks), (∀ x ∈ ks, Sto pg h x.a x.l x.n ∧ 4 ≤ x.n ∧ x.n ≤ 8) → (∀ x ∈ ks', Sto pg h x.a x.l x.n ∧ 4 ≤ x.n ∧ x.n ≤ 8) → ks'.map ksK = ks.map ksK → ks.flatMap (·.l) = ks'.flatMap (·.l) := by
   intro ks
   induction ks with
   | nil => intro ks' _ _ e; cases ks' with
    | nil => rfl
    | cons x r => simp at e
   | cons x ks ih =>
    intro ks' hh hk e
    cases ks' with
    | nil => simp at e
    | cons y ks' =>
     rw [List.map_cons, List.map_cons, List.cons.injEq] at e
     have ea : y.a = x.a := congrArg Lf.Kd.at_ e.1
     have s1 := (hh x (by simp)).1
     have s2 := (hk y (by simp)).1
     rw [ea] at s2
     rw [List.flatMap_cons, List.flatMap_cons, sto_fun s1 s2, ih ks' (fun z hz => hh z (by simp [hz])) (fun z hz => hk z (by simp [hz])) e.2]
  exact key ks ks' h1 k1 a2
abbrev frP (pg : Pgs) : Fr := ⟨fun a h l n => a = -1 ∨ Sto pg h a l n, fun _ _ _ => .inl rfl⟩
theorem key_mem {l : List Xt} (h : l ≠ []) : ∃ e ∈ l, keyX l = e.fr := by
 cases l with
 | nil => exact absurd rfl h
 | cons e l => exact ⟨e, by simp, rfl⟩
theorem kidsB_of {pg : Pgs} {h : Nat} {ks : List Ks} (h2 : 2 ≤ ks.length) (h8 : ks.length ≤ 8) (hok : OkL (ks.flatMap (·.l))) (hs : ∀ x ∈ ks, Sto pg h x.a x.l x.n ∧ x.l ≠ []) : Lf.kidsB (ks.map ksK) = true := by
 have hsort := chain_sort hok.1
 rw [SortX, List.pairwise_flatMap] at hsort
 have hp := hsort.2
 rw [List.pairwise_iff_getElem] at hp
 have hlt : ∀ (i j : Nat) (hi : i < ks.length) (hj : j < ks.length), i < j → keyX ks[i].l < keyX ks[j].l := by
  intro i j hi hj hij
  obtain ⟨x, hx, e1⟩ := key_mem (hs ks[i] (List.getElem_mem hi)).2
  obtain ⟨y, hy, e2⟩ := key_mem (hs ks[j] (List.getElem_mem hj)).2
  rw [e1, e2]
  exact hp i j hi hj hij x hx y hy
 refine Lf.kidsB_iff.2 ⟨by simpa using h2, by simpa using h8, Lf.lkB_at.2 ⟨fun i hi => ?_, fun i hi => ?_⟩, Lf.nodup_at.2 fun i hi j hj hij e => ?_⟩
 ·simp only [List.length_map] at hi
  have hm := List.getElem_mem hi
  obtain ⟨s1, s2⟩ := hs _ hm
  obtain ⟨x, hx, e1⟩ := key_mem s2
  have ho := chain_one hok.1 x (List.mem_flatMap.2 ⟨_, hm, hx⟩)
  have ha := s1.at_
  have h1 := ho.1
  have h3 := ho.2.1
  have h4 := ho.2.2.2.1
  rw [List.getElem_map]
  refine Lf.kidB_iff.2 ⟨?_, ?_, ha.1, ?_⟩ <;> simp only [ksK, e1] <;> omega
 ·simp only [List.length_map] at hi
  rw [List.getElem_map, List.getElem_map]
  simp only [Lf.upB, ksK]
  exact decide_eq_true (hlt i (i + 1) (by omega) hi (by omega))
 ·simp only [List.length_map] at hi hj
  rw [List.getElem_map, List.getElem_map] at e
  simp only [ksK] at e
  have s1 := (hs ks[i] (List.getElem_mem hi)).1
  have s2 := (hs ks[j] (List.getElem_mem hj)).1
  rw [e] at s2
  have := sto_fun s1 s2
  have := hlt j i hj hi hij
  rw [sto_fun s1 s2] at this
  omega
open Go.RowKit Ar
theorem ownL_flat {α : Type} {g : α → List PV} (h : ∀ x, ownL (g x) = false) : ∀ l : List α, ownL (l.map g).flatten = false
 | [] => rfl
 | x :: l => by rw [List.map_cons, List.flatten_cons, ownL_app, h, ownL_flat h l]; rfl
theorem rec_hd {α : Type} (ent : α → List UInt8) {l : List α} (h8 : l.length ≤ 8) : (Lf.recG ent l == []) = false ∧ idxsV (.str (Lf.recG ent l)) (.int .i64 0) = some (.int .u8 (l.length : Int)) ∧ sstrV (.str (Lf.recG ent l)) (some (some 1)) (some none) = some (.str (l.flatMap ent)) := by
 have h1 : (leB 1 l.length).length = 1 := leB_len _ _
 have hl : 1 ≤ (Lf.recG ent l).length := by rw [Lf.recG, List.length_append, h1]; omega
 have ht : (Lf.recG ent l).take 1 = leB 1 l.length := by rw [Lf.recG, List.take_left' h1]
 have hd : (Lf.recG ent l).drop 1 = l.flatMap ent := by rw [Lf.recG, List.drop_left' h1]
 refine ⟨?_, ?_, ?_⟩
 ·cases hs : Lf.recG ent l with
  | nil => rw [hs] at hl; simp at hl
  | cons b t => rfl
 ·have : idxsV (.str (Lf.recG ent l)) (.int .i64 0) = some (.int .u8 ((leN ((Lf.recG ent l).take 1) : Nat) : Int)) := by
   cases hs : Lf.recG ent l with
   | nil => rw [hs] at hl; simp at hl
   | cons b t => simp [idxsV, leN]
  rw [this, ht, Lf.leN_of (by show l.length < 256; omega)]
 ·have := sstrV_from (l := Lf.recG ent l) (i := 1) (by omega)
  rw [hd] at this; exact this
theorem take_E (e : Xt) (h : Lf.FitE e) (Y : List UInt8) : takeS (Lf.entE e ++ Y) [3, 4, 1, 2] = (Lf.numE e, Y, 0) := by
 obtain ⟨⟨a, b, c, d, f⟩, g⟩ := h
 rw [Lf.take_ext _ (by rw [List.length_append, Lf.entE_len]; omega)]
 have l0 : (leB 3 e.fr.toNat).length = 3 := leB_len _ _
 have n0 : leN (leB 3 e.fr.toNat) = e.fr.toNat := Lf.leN_of (by show e.fr.toNat < 16777216; omega)
 have l1 : (leB 4 e.n.toNat).length = 4 := leB_len _ _
 have n1 : leN (leB 4 e.n.toNat) = e.n.toNat := Lf.leN_of (by show e.n.toNat < 4294967296; omega)
 have l2 : (leB 1 e.kd.toNat).length = 1 := leB_len _ _
 have n2 : leN (leB 1 e.kd.toNat) = e.kd.toNat := Lf.leN_of (by show e.kd.toNat < 256; omega)
 have l3 : (leB 2 e.at_.toNat).length = 2 := leB_len _ _
 have n3 : leN (leB 2 e.at_.toNat) = e.at_.toNat := Lf.leN_of (by show e.at_.toNat < 65536; omega)
 simp only [Lf.entE, Lf.numE]
 generalize leB 3 e.fr.toNat = y0 at *
 generalize leB 4 e.n.toNat = y1 at *
 generalize leB 1 e.kd.toNat = y2 at *
 generalize leB 2 e.at_.toNat = y3 at *
 obtain ⟨Z, hZ⟩ : ∃ Z, (y0 ++ (y1 ++ (y2 ++ (y3))) ++ Y) = Z := ⟨_, rfl⟩
 rw [hZ]
 have A0 : Z = y0 ++ (y1 ++ (y2 ++ (y3 ++ (Y)))) := by rw [← hZ]; simp only [List.append_assoc]
 have T0 : Z.take 3 = y0 := by rw [A0]; exact List.take_left' l0
 have A1 : Z.drop 3 = y1 ++ (y2 ++ (y3 ++ (Y))) := by rw [A0]; exact List.drop_left' l0
 have T1 : (Z.drop 3).take 4 = y1 := by rw [A1]; exact List.take_left' l1
 have A2 : Z.drop 7 = y2 ++ (y3 ++ (Y)) := by rw [show 7 = 3 + 4 from rfl, ← List.drop_drop, A1]; exact List.drop_left' l1
 have T2 : (Z.drop 7).take 1 = y2 := by rw [A2]; exact List.take_left' l2
 have A3 : Z.drop 8 = y3 ++ (Y) := by rw [show 8 = 7 + 1 from rfl, ← List.drop_drop, A2]; exact List.drop_left' l2
 have T3 : (Z.drop 8).take 2 = y3 := by rw [A3]; exact List.take_left' l3
 have A4 : Z.drop 10 = Y := by rw [show 10 = 8 + 2 from rfl, ← List.drop_drop, A3]; exact List.drop_left' l3
 rw [T0, T1, T2, T3, A4, n0, n1, n2, n3]
theorem readE_i {ob : List AObj} {l : List Xt} (h : Lf.leafB l = true) : ICall Tryz.prog 141 [.str (Lf.recG Lf.entE l), .slc (rowsZ .i64 [3, 4, 1, 2]), .fn (.func 132) [] [], .fn (.func 142) [] []] ob fun r ob' =>
  ∃ q off c, r = .tup [.asl q off l.length c, .int .i64 0] ∧ Arr ob' 4 q off l.length c (l.map rowE).flatten ∧ c ≤ 9223372036854775807 ∧ ob.length ≤ q ∧ Same ob ob' (fun _ => False) := by
 refine icall_dr Tryz.func141 E141.h ?_
 have h1 : 1 ≤ l.length := (Lf.leafB_iff.1 h).1
 have h8 : l.length ≤ 8 := (Lf.leafB_iff.1 h).2.1
 obtain ⟨d0, hi0, g1⟩ := rec_hd Lf.entE h8
 have d1 : decide ((8 : Int) < (l.length : Int)) = false := by rw [decide_eq_false_iff_not]; omega
 generalize Lf.recG Lf.entE l = S at *
 simp only [U141, d0, hi0, d1, g1, seval, bA]
 refine loopF (fun x : Nat × PV × List AObj => ⟨ofL [(1, .slc (rowsZ .i64 [3, 4, 1, 2])), (2, .fn (.func 132) [] []), (3, .fn (.func 142) [] []), (10, x.2.1), (11, .str ((l.drop x.1).flatMap Lf.entE)), (25, .int .u8 (l.length : Int)), (26, .int .u8 (x.1 : Int))], x.2.2⟩)
  (fun x => x.1 ≤ l.length ∧ Same ob x.2.2 (fun _ => False) ∧ SlB x.2.2 4 x.2.1 x.1 ((l.take x.1).map rowE).flatten ∧ ∀ r, OnB x.2.1 r → ob.length ≤ r) (fun x => l.length - x.1) (0, .nils, ob) ?_ ⟨Nat.zero_le _, Same.refl _ _, .inl ⟨rfl, rfl, rfl⟩, fun r hr => by obtain ⟨_, _, _, h⟩ := hr; cases h⟩ ?_
 ·simp only [U141, seval, bA]
  all_goals rfl
 rintro ⟨i, v, X⟩ ⟨hi, hS, hv, hq⟩
 simp only at hi hS hv hq
 by_cases hlt : i < l.length
 ·have d : decide ((i : Int) < (l.length : Int)) = true := by simpa using hlt
  have e1 : IntKind.u8.wrap ((i : Int) + 1) = ((i + 1 : Nat) : Int) := by rw [wrap8]; omega
  obtain ⟨e, he⟩ : ∃ e, l[i] = e := ⟨_, rfl⟩
  have hem : e ∈ l := by rw [← he]; exact List.getElem_mem hlt
  have hfit := Lf.leaf_fit h e hem
  have hsp : (l.drop i).flatMap Lf.entE = Lf.entE e ++ (l.drop (i + 1)).flatMap Lf.entE := by rw [List.drop_eq_getElem_cons hlt, List.flatMap_cons, he]
  have hlen : (Lf.entE e ++ (l.drop (i + 1)).flatMap Lf.entE).length ≤ 1000 := by rw [← hsp, Lf.flatG_len Lf.entE_len, List.length_drop]; omega
  have htk := take_E e hfit ((l.drop (i + 1)).flatMap Lf.entE)
  rw [hsp]
  simp only [U141, d, seval, bA]
  refine callI (take_spec _ [3, 4, 1, 2] (by omega) (by simp)) ?_
  rw [htk]
  have hc1 : PCall Tryz.prog 142 [.slc (rowsN .u64 (Lf.numE e))] (.agg (rowE e)) := by
   obtain ⟨⟨a, b, c, d, f⟩, g⟩ := hfit
   have := Lf.leaf_ReadLeaf_c1_spec e.fr.toNat e.n.toNat e.kd.toNat e.at_.toNat (by omega) (by omega) (by omega) (by omega)
   rw [show (⟨(e.fr.toNat : Int), (e.n.toNat : Int), (e.kd.toNat : Int), (e.at_.toNat : Int)⟩ : Xt) = e by cases e; simp only [] at *; congr 1 <;> omega] at this
   exact this
  simp only [U141, seval, bA]
  refine callM (ICall.ofP hc1 rfl (fun _ _ _ _ h => h)) ?_
  rintro r ob2 ⟨rfl, hob⟩
  rw [hob]; clear hob ob2
  simp only [U141, rowE, seval, bA]
  have hsrc : arrSrc (X ++ [AObj.box (rowE e)]) 4 (.asl X.length 0 1 1) = some (rowE e) := by
   rw [arrSrc_asl (app0 _ _) (by simp [rowE])]; rfl
  have hS2 : Same X (X ++ [AObj.box (rowE e)]) (fun _ => False) := Same.app _ _ _
  simp only [rowE] at hsrc hS2
  refine appB (hv.same hS2 (fun _ _ h => h)) rfl hsrc rfl rfl (by omega) ?_
  intro r off' c' ob3 hA3 hr3 hS3 hc3
  have hr0 : ob.length ≤ r := by
   have := hS.1; have := hS2.1
   rcases hr3 with h | h
   ·exact hq r h
   ·simp only [List.length_append, List.length_cons, List.length_nil] at h; omega
  simp only [U141, e1, seval, bA]
  refine ⟨(i + 1, .asl r off' (i + 1) c', ob3), rfl, ⟨hlt, ?_, .inr ⟨r, off', c', rfl, ?_, hc3⟩, ?_⟩, by simp only; omega⟩
  ·refine ⟨show ob.length ≤ ob3.length by have := hS.1; have := hS2.1; have := hS3.1; omega, fun j hj _ => ?_⟩
   show ob3[j]? = ob[j]?
   rw [hS3.2 j (by have := hS.1; have := hS2.1; omega) (show ¬ j = r by omega), hS2.2 j (by have := hS.1; omega) (fun h => h)]
   exact hS.2 j hj (fun h => h)
  ·have e2 : l.take (i + 1) = l.take i ++ [e] := by rw [List.take_succ_eq_append_getElem hlt, he]
   simp only [e2, List.map_append, List.flatten_append, List.map_cons, List.map_nil, List.flatten_cons, List.flatten_nil, List.append_nil]
   exact hA3
  ·rintro i' ⟨o', n', c'', e'⟩
   injection e' with e'
   omega
 ·have d : decide ((i : Int) < (l.length : Int)) = false := by simpa using hlt
  have hie : i = l.length := by omega
  subst hie
  rw [List.take_length] at hv
  rcases hv with ⟨h0, _⟩ | ⟨q, off, c, rfl, hA, hc⟩
  ·omega
  have hm := RCall.ofArr (pre := []) (post := []) (esz := 4) (ob := X) (Lf.extents_spec l (by omega)) hA (fun r hr => by obtain ⟨e, _, rfl⟩ := List.mem_map.1 hr; rfl) (by rw [List.length_map]) (ownL_flat (fun _ => rfl) l) rfl rfl rfl
  rw [h] at hm
  simp only [List.drop_length, List.flatMap_nil]
  simp only [U141, d, seval, bA]
  refine callM (ICall.ofR hm) ?_
  rintro r ob2 ⟨rfl, hob⟩
  rw [hob]; clear hob ob2
  simp only [U141, seval, bA]
  exact ⟨_, rfl, q, off, c, rfl, hA, hc, hq q ⟨_, _, _, rfl⟩, hS⟩
theorem ReadLeaf_i {ob : List AObj} {l : List Xt} (h : Lf.leafB l = true) : ICall Tryz.prog 104 [.str (Lf.recG Lf.entE l)] ob fun r ob' =>
  ∃ q off c, r = .tup [.asl q off l.length c, .int .i64 0] ∧ Arr ob' 4 q off l.length c (l.map rowE).flatten ∧ c ≤ 9223372036854775807 ∧ ob.length ≤ q ∧ Same ob ob' (fun _ => False) := by
 refine icall_dr Tryz.func104 E104.h ?_
 simp only [U104, seval, bA]
 refine callI Lf.extWidths_spec ?_
 simp only [U104, seval, bA]
 refine callM (readE_i h) ?_
 rintro r ob' ⟨q, off, c, rfl, hh⟩
 simp only [U104, seval, bA]
 exact ⟨_, rfl, q, off, c, rfl, hh⟩
theorem take_K (e : Lf.Kd) (h : Lf.FitK e) (Y : List UInt8) : takeS (Lf.entK e ++ Y) [3, 2] = (Lf.numK e, Y, 0) := by
 obtain ⟨a, b, c, d⟩ := h
 rw [Lf.take_kid _ (by rw [List.length_append, Lf.entK_len]; omega)]
 have l0 : (leB 3 e.ky.toNat).length = 3 := leB_len _ _
 have n0 : leN (leB 3 e.ky.toNat) = e.ky.toNat := Lf.leN_of (by show e.ky.toNat < 16777216; omega)
 have l1 : (leB 2 e.at_.toNat).length = 2 := leB_len _ _
 have n1 : leN (leB 2 e.at_.toNat) = e.at_.toNat := Lf.leN_of (by show e.at_.toNat < 65536; omega)
 simp only [Lf.entK, Lf.numK]
 generalize leB 3 e.ky.toNat = y0 at *
 generalize leB 2 e.at_.toNat = y1 at *
 obtain ⟨Z, hZ⟩ : ∃ Z, (y0 ++ (y1) ++ Y) = Z := ⟨_, rfl⟩
 rw [hZ]
 have A0 : Z = y0 ++ (y1 ++ (Y)) := by rw [← hZ]; simp only [List.append_assoc]
 have T0 : Z.take 3 = y0 := by rw [A0]; exact List.take_left' l0
 have A1 : Z.drop 3 = y1 ++ (Y) := by rw [A0]; exact List.drop_left' l0
 have T1 : (Z.drop 3).take 2 = y1 := by rw [A1]; exact List.take_left' l1
 have A2 : Z.drop 5 = Y := by rw [show 5 = 3 + 2 from rfl, ← List.drop_drop, A1]; exact List.drop_left' l1
 rw [T0, T1, A2, n0, n1]
theorem readK_i {ob : List AObj} {l : List Lf.Kd} (h : Lf.kidsB l = true) : ICall Tryz.prog 143 [.str (Lf.recG Lf.entK l), .slc (rowsZ .i64 [3, 2]), .fn (.func 136) [] [], .fn (.func 144) [] []] ob fun r ob' =>
  ∃ q off c, r = .tup [.asl q off l.length c, .int .i64 0] ∧ Arr ob' 2 q off l.length c (l.map Lf.rowK).flatten ∧ c ≤ 9223372036854775807 ∧ ob.length ≤ q ∧ Same ob ob' (fun _ => False) := by
 refine icall_dr Tryz.func143 E143.h ?_
 have h1 : 1 ≤ l.length := by have := (Lf.kidsB_iff.1 h).1; omega
 have h8 : l.length ≤ 8 := (Lf.kidsB_iff.1 h).2.1
 obtain ⟨d0, hi0, g1⟩ := rec_hd Lf.entK h8
 have d1 : decide ((8 : Int) < (l.length : Int)) = false := by rw [decide_eq_false_iff_not]; omega
 generalize Lf.recG Lf.entK l = S at *
 simp only [U143, d0, hi0, d1, g1, seval, bA]
 refine loopF (fun x : Nat × PV × List AObj => ⟨ofL [(1, .slc (rowsZ .i64 [3, 2])), (2, .fn (.func 136) [] []), (3, .fn (.func 144) [] []), (10, x.2.1), (11, .str ((l.drop x.1).flatMap Lf.entK)), (25, .int .u8 (l.length : Int)), (26, .int .u8 (x.1 : Int))], x.2.2⟩)
  (fun x => x.1 ≤ l.length ∧ Same ob x.2.2 (fun _ => False) ∧ SlB x.2.2 2 x.2.1 x.1 ((l.take x.1).map Lf.rowK).flatten ∧ ∀ r, OnB x.2.1 r → ob.length ≤ r) (fun x => l.length - x.1) (0, .nils, ob) ?_ ⟨Nat.zero_le _, Same.refl _ _, .inl ⟨rfl, rfl, rfl⟩, fun r hr => by obtain ⟨_, _, _, h⟩ := hr; cases h⟩ ?_
 ·simp only [U143, seval, bA]
  all_goals rfl
 rintro ⟨i, v, X⟩ ⟨hi, hS, hv, hq⟩
 simp only at hi hS hv hq
 by_cases hlt : i < l.length
 ·have d : decide ((i : Int) < (l.length : Int)) = true := by simpa using hlt
  have e1 : IntKind.u8.wrap ((i : Int) + 1) = ((i + 1 : Nat) : Int) := by rw [wrap8]; omega
  obtain ⟨e, he⟩ : ∃ e, l[i] = e := ⟨_, rfl⟩
  have hem : e ∈ l := by rw [← he]; exact List.getElem_mem hlt
  have hfit := Lf.kids_fit' h e hem
  have hsp : (l.drop i).flatMap Lf.entK = Lf.entK e ++ (l.drop (i + 1)).flatMap Lf.entK := by rw [List.drop_eq_getElem_cons hlt, List.flatMap_cons, he]
  have hlen : (Lf.entK e ++ (l.drop (i + 1)).flatMap Lf.entK).length ≤ 1000 := by rw [← hsp, Lf.flatG_len Lf.entK_len, List.length_drop]; omega
  have htk := take_K e hfit ((l.drop (i + 1)).flatMap Lf.entK)
  rw [hsp]
  simp only [U143, d, seval, bA]
  refine callI (take_spec _ [3, 2] (by omega) (by simp)) ?_
  rw [htk]
  have hc1 : PCall Tryz.prog 144 [.slc (rowsN .u64 (Lf.numK e))] (.agg (Lf.rowK e)) := by
   obtain ⟨a, b, c, d⟩ := hfit
   have := Lf.leaf_ReadInner_c1_spec e.ky.toNat e.at_.toNat (by omega) (by omega)
   rw [show (⟨(e.ky.toNat : Int), (e.at_.toNat : Int)⟩ : Lf.Kd) = e by cases e; simp only [] at *; congr 1 <;> omega] at this
   exact this
  simp only [U143, seval, bA]
  refine callM (ICall.ofP hc1 rfl (fun _ _ _ _ h => h)) ?_
  rintro r ob2 ⟨rfl, hob⟩
  rw [hob]; clear hob ob2
  simp only [U143, Lf.rowK, seval, bA]
  have hsrc : arrSrc (X ++ [AObj.box (Lf.rowK e)]) 2 (.asl X.length 0 1 1) = some (Lf.rowK e) := by
   rw [arrSrc_asl (app0 _ _) (by simp [Lf.rowK])]; rfl
  have hS2 : Same X (X ++ [AObj.box (Lf.rowK e)]) (fun _ => False) := Same.app _ _ _
  simp only [Lf.rowK] at hsrc hS2
  refine appB (hv.same hS2 (fun _ _ h => h)) rfl hsrc rfl rfl (by omega) ?_
  intro r off' c' ob3 hA3 hr3 hS3 hc3
  have hr0 : ob.length ≤ r := by
   have := hS.1; have := hS2.1
   rcases hr3 with h | h
   ·exact hq r h
   ·simp only [List.length_append, List.length_cons, List.length_nil] at h; omega
  simp only [U143, e1, seval, bA]
  refine ⟨(i + 1, .asl r off' (i + 1) c', ob3), rfl, ⟨hlt, ?_, .inr ⟨r, off', c', rfl, ?_, hc3⟩, ?_⟩, by simp only; omega⟩
  ·refine ⟨show ob.length ≤ ob3.length by have := hS.1; have := hS2.1; have := hS3.1; omega, fun j hj _ => ?_⟩
   show ob3[j]? = ob[j]?
   rw [hS3.2 j (by have := hS.1; have := hS2.1; omega) (show ¬ j = r by omega), hS2.2 j (by have := hS.1; omega) (fun h => h)]
   exact hS.2 j hj (fun h => h)
  ·have e2 : l.take (i + 1) = l.take i ++ [e] := by rw [List.take_succ_eq_append_getElem hlt, he]
   simp only [e2, List.map_append, List.flatten_append, List.map_cons, List.map_nil, List.flatten_cons, List.flatten_nil, List.append_nil]
   exact hA3
  ·rintro i' ⟨o', n', c'', e'⟩
   injection e' with e'
   omega
 ·have d : decide ((i : Int) < (l.length : Int)) = false := by simpa using hlt
  have hie : i = l.length := by omega
  subst hie
  rw [List.take_length] at hv
  rcases hv with ⟨h0, _⟩ | ⟨q, off, c, rfl, hA, hc⟩
  ·omega
  have hm := RCall.ofArr (pre := []) (post := []) (esz := 2) (ob := X) (Lf.kids_spec l (by omega)) hA (fun r hr => by obtain ⟨e, _, rfl⟩ := List.mem_map.1 hr; rfl) (by rw [List.length_map]) (ownL_flat (fun _ => rfl) l) rfl rfl rfl
  rw [h] at hm
  simp only [List.drop_length, List.flatMap_nil]
  simp only [U143, d, seval, bA]
  refine callM (ICall.ofR hm) ?_
  rintro r ob2 ⟨rfl, hob⟩
  rw [hob]; clear hob ob2
  simp only [U143, seval, bA]
  exact ⟨_, rfl, q, off, c, rfl, hA, hc, hq q ⟨_, _, _, rfl⟩, hS⟩
theorem ReadInner_i {ob : List AObj} {l : List Lf.Kd} (h : Lf.kidsB l = true) : ICall Tryz.prog 106 [.str (Lf.recG Lf.entK l)] ob fun r ob' =>
  ∃ q off c, r = .tup [.asl q off l.length c, .int .i64 0] ∧ Arr ob' 2 q off l.length c (l.map Lf.rowK).flatten ∧ c ≤ 9223372036854775807 ∧ ob.length ≤ q ∧ Same ob ob' (fun _ => False) := by
 refine icall_dr Tryz.func106 E106.h ?_
 simp only [U106, seval, bA]
 refine callI Lf.kidWidths_spec ?_
 simp only [U106, seval, bA]
 refine callM (readK_i h) ?_
 rintro r ob' ⟨q, off, c, rfl, hh⟩
 simp only [U106, seval, bA]
 exact ⟨_, rfl, q, off, c, rfl, hh⟩
open Go.RowKit Ar
structure Mis where
 at_ : Int
 kd : Int
 kp : Int
 jk : List UInt8
def rowM (m : Mis) : List PV := [.int .i64 m.at_, .int .i64 m.kd, .int .i64 m.kp, .str m.jk]
def zeroM : Mis := ⟨0, 0, 0, []⟩
structure Bk where
 pg : List (List UInt8)
 wn : Int
 bad : Bool
def zeroK : Bk := ⟨[], 0, false⟩
structure Ent where
 pv : PV
 b : Bk
def cellsE (e : Ent) : List PV := [e.pv, .int .i64 e.b.wn, .bool e.b.bad]
abbrev lM (l : List Mis) : AObj := .list 4 (l.map rowM)
def PlAt (ob : List AObj) (pl : PV) (pk : Nat) (P : List Mis) : Prop := (P = [] ∧ pl = .nils) ∨ (pl = .osl pk 0 P.length ∧ ob[pk]? = some (lM P))
abbrev boxN (g B : Nat) (ops : Int) (pl : PV) : AObj := .box [.int .i64 16, .int .i64 (g : Int), .bsl B 0 16, .int .i64 ops, pl, .bool false]
structure NandAt (T : Nat → Prop) (ob : List AObj) (g N B : Nat) (E : List Ent) (ops : Int) (pl : PV) (pk : Nat) (P : List Mis) : Prop where
 hN : ob[N]? = some (boxN g B ops pl)
 hB : ob[B]? = some (.box (E.flatMap cellsE))
 len : E.length = 16
 pgs : ∀ e ∈ E, SlB ob 1 e.pv e.b.pg.length (e.b.pg.map PV.str)
 pln : PlAt ob pl pk P
 inj : ∀ (i j : Nat) (a b : Ent) (q : Nat), E[i]? = some a → E[j]? = some b → OnB a.pv q → OnB b.pv q → i = j
 out : ∀ e ∈ E, ∀ q, OnB e.pv q → q ≠ N ∧ q ≠ B ∧ T q
 nb : N ≠ B
 tN : T N
 tB : T B
 tp : pl ≠ .nils → T pk
 g8 : 8 ≤ g
 g32 : g ≤ 32
 ops0 : 0 ≤ ops
 ops1 : ops ≤ 1000000
 pl1 : P.length ≤ 1000000
theorem apN {ob : List AObj} {i : Nat} {a : AObj} (h : ob[i]? = some a) (l : List AObj) : (ob ++ l)[i]? = some a := app1 h l
theorem lt_ofN {ob : List AObj} {i : Nat} {a : AObj} (h : ob[i]? = some a) : i < ob.length := (List.getElem?_eq_some_iff.1 h).1
theorem onB_lt {ob : List AObj} {e n q : Nat} {v : PV} {xs : List PV} (h : SlB ob e v n xs) (hq : OnB v q) : q < ob.length := by
 rcases h with ⟨_, _, rfl⟩ | ⟨q', off, c, rfl, hA, _⟩
 ·obtain ⟨_, _, _, h⟩ := hq; cases h
 ·obtain ⟨_, _, _, h⟩ := hq
  injection h with h; subst h; exact hA.lt
section
variable {T : Nat → Prop} {ob ob' : List AObj} {g N B : Nat} {E : List Ent} {ops : Int} {pl : PV} {pk : Nat} {P : List Mis}
theorem PlAt.same {U : Nat → Prop} (h : PlAt ob pl pk P) (hS : Same ob ob' U) (hU : pl ≠ .nils → pk < ob.length → ¬ U pk) : PlAt ob' pl pk P := by
 rcases h with h | ⟨h1, h2⟩
 ·exact .inl h
 ·exact .inr ⟨h1, hS.get h2 (hU (by rw [h1]; simp) (lt_ofN h2))⟩
theorem NandAt.same {U : Nat → Prop} (h : NandAt T ob g N B E ops pl pk P) (hS : Same ob ob' U) (hU : ∀ i, i < ob.length → T i → ¬ U i) : NandAt T ob' g N B E ops pl pk P :=
 { h with
  hN := hS.get h.hN (hU _ (lt_ofN h.hN) h.tN)
  hB := hS.get h.hB (hU _ (lt_ofN h.hB) h.tB)
  pgs := fun e he => (h.pgs e he).same hS fun q hq => hU q (onB_lt (h.pgs e he) hq) (h.out e he q hq).2.2
  pln := h.pln.same hS fun h1 h2 => hU _ h2 (h.tp h1) }
theorem NandAt.app (h : NandAt T ob g N B E ops pl pk P) (l : List AObj) : NandAt T (ob ++ l) g N B E ops pl pk P := h.same (Same.app ob l (fun _ => False)) fun _ _ _ h => h
theorem NandAt.wide {U : Nat → Prop} (h : NandAt T ob g N B E ops pl pk P) (hU : ∀ i, i < ob.length → T i → U i) : NandAt U ob g N B E ops pl pk P :=
 { h with
  out := fun e he q hq => ⟨(h.out e he q hq).1, (h.out e he q hq).2.1, hU q (onB_lt (h.pgs e he) hq) (h.out e he q hq).2.2⟩
  tN := hU _ (lt_ofN h.hN) h.tN
  tB := hU _ (lt_ofN h.hB) h.tB
  tp := fun hp => by
   rcases h.pln with ⟨_, h2⟩ | ⟨_, h2⟩
   ·exact absurd h2 hp
   ·exact hU _ (lt_ofN h2) (h.tp hp) }
end
theorem nin_spec (n a b : Int) : PCall Tryz.prog 28 [.int .i64 n, .int .i64 a, .int .i64 b] (.bool (decide (a ≤ n) && decide (n ≤ b))) := by
 refine pcall_dr Tryz.func28 E28.h ?_
 by_cases h0 : a ≤ n
 ·have d : decide (a ≤ n) = true := by simpa using h0
  simp only [U28, d, Bool.true_and, seval, bA]
 ·have d : decide (a ≤ n) = false := by simpa using h0
  simp only [U28, d, Bool.false_and, seval, bA]
theorem plain_spec : PCall Tryz.prog 6 [] (.agg [.int .i64 16, .int .i64 8]) := by
 refine pcall_dr Tryz.func6 E6.h ?_
 simp only [U6, seval, bA]
def errV (e : Int) : PV := if e = 0 then .nili else .ifc 36 (.int .i64 e)
def WrapAt (ob : List AObj) (e : Int) (r : PV) : Prop := (e = 0 ∧ r = .nili) ∨ (e ≠ 0 ∧ ∃ o op a, r = .ifc 144 (.ref o 0) ∧ ob[o]? = some (.box [.str op, .int .i64 a, .ifc 36 (.int .i64 e)]))
theorem wrap_i (ob : List AObj) (op : List UInt8) (a e : Int) : ICall Tryz.prog 29 [.str op, .int .i64 a, errV e] ob fun r ob' => (∃ ex, ob' = ob ++ ex) ∧ WrapAt ob' e r := by
 refine icall_dr Tryz.func29 E29.h ?_
 unfold errV
 by_cases h : e = 0
 ·rw [if_pos h]
  simp only [U29, seval, bA]
  exact ⟨_, rfl, ⟨[], by simp⟩, .inl ⟨h, rfl⟩⟩
 ·rw [if_neg h]
  simp only [U29, seval, bA]
  exact ⟨_, rfl, ⟨_, rfl⟩, .inr ⟨h, _, op, a, rfl, by simp⟩⟩
theorem wrap_r (ob : List AObj) (op : List UInt8) (a : Int) : RCall Tryz.prog 29 [.str op, .int .i64 a, .nili] ob .nili := by
 refine RCall.of (K := fun r ob' => r = .nili ∧ ∃ ex, ob' = ob ++ ex) ?_ (fun r ob' h => h) rfl
 refine callM (wrap_i ob op a 0) ?_
 rintro r ob' ⟨h1, h2⟩
 rcases h2 with ⟨_, h2⟩ | ⟨h2, _⟩
 ·exact ⟨h2, h1⟩
 ·exact absurd rfl h2
def spoiltS (m : Mis) (s : List UInt8) : List UInt8 := (s.take (min m.kp s.length).toNat ++ m.jk).take 128
theorem spoilt_spec (m : Mis) (s : List UInt8) (hs : s.length ≤ 128) (hj : m.jk.length ≤ 1000) : PCall Tryz.prog 113 [.agg (rowM m), .str s] (.str (spoiltS m s)) := by
 refine pcall_dr Tryz.func113 E113.h ?_
 obtain ⟨z, hz⟩ : ∃ z : Nat, max (min m.kp (s.length : Int)) 0 = (z : Int) := ⟨(min m.kp (s.length : Int)).toNat, by omega⟩
 have hz2 : (min m.kp (s.length : Int)).toNat = z := by omega
 have hzs : z ≤ s.length := by omega
 have s1 := sstrV_to hzs
 obtain ⟨t, ht⟩ : ∃ t, s.take z ++ m.jk = t := ⟨_, rfl⟩
 have htl : (s.take z).length + m.jk.length ≤ 9223372036854775807 := by simp; omega
 have b1 : binS .add (s.take z) m.jk = some (.str t) := by rw [binS_add htl, ht]
 obtain ⟨y, hy⟩ : ∃ y : Nat, min (t.length : Int) 128 = (y : Int) := ⟨min t.length 128, by omega⟩
 have s2 : sstrV (.str t) (some none) (some (some (y : Int))) = some (.str (t.take y)) := sstrV_to (by omega)
 have hv : spoiltS m s = t.take y := by
  rw [spoiltS, hz2, ht]
  by_cases h : t.length ≤ 128
  ·rw [List.take_of_length_le h, List.take_of_length_le (by omega)]
  ·rw [show y = 128 by omega]
 rw [hv]
 simp only [U113, rowM, hz, hy, s1, s2, b1, seval, bA]
section
variable {T : Nat → Prop} {ob : List AObj} {g N B : Nat} {E : List Ent} {ops : Int} {pl : PV} {pk : Nat} {P : List Mis}
theorem page_r (h : NandAt T ob g N B E ops pl pk P) (i : Int) : RCall Tryz.prog 111 [.ref N 0, .int .i64 i] ob (.bool (decide (0 ≤ i) && decide (i < ((16 * g : Nat) : Int)))) := by
 refine RCall.ofR ?_ rfl
 refine icall_dr Tryz.func111 E111.h ?_
 have hN := h.hN
 have hg := h.g32
 have w : IntKind.i64.wrap ((16 : Int) * (g : Int)) = ((16 * g : Nat) : Int) := by rw [wrapI (by omega) (by omega)]; omega
 by_cases h0 : 0 ≤ i
 ·have d : decide (0 ≤ i) = true := by simpa using h0
  simp only [U111, d, hN, w, Bool.true_and, seval, bA]
  exact ⟨_, rfl, isR rfl⟩
 ·have d : decide (0 ≤ i) = false := by simpa using h0
  simp only [U111, d, hN, w, Bool.false_and, seval, bA]
  exact ⟨_, rfl, isR rfl⟩
theorem ready_i (h : NandAt T ob g N B E ops pl pk P) {g : Nat} {cap : List PV} (hm : ICall Tryz.prog g cap ob fun r ob' => r = .bool true ∧ ob' = ob) :
  ICall Tryz.prog 109 [.ref N 0, .fn (.func g) [] cap] ob fun r ob' => r = .nili ∧ ob' = ob := by
 refine icall_dr Tryz.func109 E109.h ?_
 have hN := h.hN
 simp only [U109, hN, seval, bA]
 refine callM hm ?_
 rintro r ob' ⟨rfl, rfl⟩
 simp only [U109, hN, seval, bA]
 exact ⟨_, rfl, rfl⟩
theorem progc_i (h : NandAt T ob g N B E ops pl pk P) {c1 c2 c3 : Nat} {pg : Nat} {s : List UInt8} (h1 : ob[c1]? = some (.box [.ref N 0])) (h2 : ob[c2]? = some (.box [.int .i64 (pg : Int)])) (h3 : ob[c3]? = some (.box [.str s])) (hp : pg < 16 * g) (hs : s.length ≤ 128) :
  ICall Tryz.prog 110 [.ref c1 0, .ref c2 0, .ref c3 0] ob fun r ob' => r = .bool true ∧ ob' = ob := by
 refine icall_dr Tryz.func110 E110.h ?_
 have hr := page_r h (pg : Int)
 have e : (decide ((0 : Int) ≤ (pg : Int)) && decide ((pg : Int) < ((16 * g : Nat) : Int))) = true := by simp; omega
 rw [e] at hr
 have d : decide ((s.length : Int) ≤ 128) = true := by simp; omega
 simp only [U110, h1, h2, seval, bA]
 refine callR hr ?_
 simp only [U110, h3, d, seval, bA]
 exact ⟨_, rfl, rfl⟩
theorem readc_i (h : NandAt T ob g N B E ops pl pk P) {c1 c2 : Nat} {pg : Nat} (h1 : ob[c1]? = some (.box [.ref N 0])) (h2 : ob[c2]? = some (.box [.int .i64 (pg : Int)])) (hp : pg < 16 * g) :
  ICall Tryz.prog 114 [.ref c1 0, .ref c2 0] ob fun r ob' => r = .bool true ∧ ob' = ob := by
 refine icall_dr Tryz.func114 E114.h ?_
 have hr := page_r h (pg : Int)
 have e : (decide ((0 : Int) ≤ (pg : Int)) && decide ((pg : Int) < ((16 * g : Nat) : Int))) = true := by simp; omega
 rw [e] at hr
 simp only [U114, h1, h2, seval, bA]
 refine callR hr ?_
 exact ⟨_, rfl, rfl⟩
theorem block_r (h : NandAt T ob g N B E ops pl pk P) {b : Nat} (hb : b < 16) : RCall Tryz.prog 117 [.ref N 0, .int .i64 (b : Int)] ob (.bool true) := by
 refine RCall.ofR ?_ rfl
 refine icall_dr Tryz.func117 E117.h ?_
 have hN := h.hN
 have d1 : decide ((0 : Int) ≤ (b : Int)) = true := by simp
 have d2 : decide ((b : Int) < 16) = true := by simp; omega
 simp only [U117, hN, d1, d2, seval, bA]
 exact ⟨_, rfl, isR rfl⟩
theorem countc_i {c : Nat} {m : Mis} (hc : ob[c]? = some (.box [.ref N 0])) (hN : ob[N]? = some (boxN g B ops pl)) :
  ICall Tryz.prog 147 [.agg (rowM m), .ref c 0] ob fun r ob' => r = .bool (m.at_ == ops) ∧ ∃ ex, ob' = ob ++ ex := by
 refine icall_dr Tryz.func147 E147.h ?_
 have hc2 : ∀ b, (ob ++ [b])[c]? = some (.box [.ref N 0]) := fun b => apN hc [b]
 have hN2 : ∀ b, (ob ++ [b])[N]? = some (boxN g B ops pl) := fun b => apN hN [b]
 have g1 : ∀ b, (ob ++ [b])[ob.length]? = some b := fun b => by simp
 simp only [U147, rowM, hc2, hN2, g1, seval, bA]
 exact ⟨_, rfl, rfl, _, rfl⟩
def IdxM (P : List Mis) (k : Int) (r : PV) : Prop := (∃ i m, P[i]? = some m ∧ P.find? (fun x => x.at_ == k) = some m ∧ r = .int .i64 ((i : Nat) : Int)) ∨ (P.find? (fun x => x.at_ == k) = none ∧ r = .int .i64 (-1))
theorem lt_ofM {P : List Mis} {i : Nat} {a : Mis} (h : P[i]? = some a) : i < P.length := (List.getElem?_eq_some_iff.1 h).1
theorem find_at {P : List Mis} {k : Int} {i : Nat} {m : Mis} (h : P[i]? = some m) (hm : (m.at_ == k) = true) (hn : ∀ x ∈ P.take i, (x.at_ == k) = false) : P.find? (fun x => x.at_ == k) = some m := by
 have hi := lt_ofM h
 rw [← List.take_append_drop i P, List.find?_append, List.find?_eq_none.2 (by simpa using hn), List.drop_eq_getElem_cons hi]
 have : P[i] = m := by rw [List.getElem?_eq_getElem hi] at h; exact Option.some.inj h
 simp [this, hm]
theorem idx_i {c : Nat} (hc : ob[c]? = some (.box [.ref N 0])) (hN : ob[N]? = some (boxN g B ops pl)) (hp : PlAt ob pl pk P) (hP : P.length ≤ 1000000) :
  ICall Tryz.prog 146 [pl, .fn (.func 147) [] [.ref c 0]] ob fun r ob' => IdxM P ops r ∧ ∃ ex, ob' = ob ++ ex := by
 refine icall_dr Tryz.func146 E146.h ?_
 rcases hp with ⟨rfl, hp2⟩ | ⟨hpl, hp2⟩
 ·rw [hp2]
  simp only [U146, seval, bA]
  refine loopF (fun _ : Unit => ⟨ofL [(0, .nils), (1, .fn (.func 147) [] [.ref c 0]), (7, .int .i64 0), (8, .int .i64 0)], ob⟩) (fun _ => True) (fun _ => 0) () ?_ trivial ?_
  ·simp only [U146, seval, bA]
   all_goals rfl
  ·rintro ⟨⟩ -
   simp only [U146, seval, bA]
   exact ⟨_, rfl, .inr ⟨rfl, rfl⟩, [], by simp⟩
 ·rw [hpl]
  rw [hpl] at hN
  have hr : rowsO (some (lM P)) 0 P.length = some (P.map rowM) := rowsO_all (by simp)
  simp only [U146, hp2, hr, seval, bA]
  refine loopF (fun s : Nat × List AObj => ⟨ofL [(0, .osl pk 0 P.length), (1, .fn (.func 147) [] [.ref c 0]), (7, .int .i64 (P.length : Int)), (8, .int .i64 (s.1 : Int))], s.2⟩)
   (fun s => s.1 ≤ P.length ∧ (∃ ex, s.2 = ob ++ ex) ∧ ∀ x ∈ P.take s.1, (x.at_ == ops) = false) (fun s => P.length - s.1) (0, ob) ?_ ⟨Nat.zero_le _, ⟨[], by simp⟩, fun x hx => by simp at hx⟩ ?_
  ·simp only [U146, seval, bA]
   all_goals rfl
  ·rintro ⟨i, OB⟩ ⟨hi, ⟨ex, hex⟩, hn⟩
   simp only at hi hex hn ⊢
   subst hex
   by_cases hlt : i < P.length
   ·have d : decide ((i : Int) < (P.length : Int)) = true := by simpa using hlt
    have w1 : IntKind.i64.wrap ((i : Int) + 1) = ((i + 1 : Nat) : Int) := by rw [wrapI (by omega) (by omega)]; omega
    have p2 := apN hp2 ex
    have i1 := islO_map (g := rowM) (l := P) (e := 4) (o := pk) (m := P.length) (k := .i64) rfl hlt
    have i2 := ldL_map (g := rowM) (l := P) (e := 4) (len := P.length) (off := 0) (n := 4) rfl hlt (by simp [rowM])
    have i3 : ((rowM P[i]).drop 0).take 4 = rowM P[i] := by simp [rowM]
    rw [i3] at i2
    simp only [U146, d, p2, i1, i2, seval, bA]
    refine callM (countc_i (m := P[i]) (apN hc ex) (apN hN ex)) ?_
    rintro r ob' ⟨rfl, ex2, rfl⟩
    cases hm : (P[i].at_ == ops) with
    | true =>
     simp only [U146, seval, bA]
     have hg := List.getElem?_eq_getElem hlt
     exact ⟨_, rfl, .inl ⟨i, P[i], hg, find_at hg hm hn, rfl⟩, ex ++ ex2, by simp⟩
    | false =>
     simp only [U146, w1, seval, bA]
     refine ⟨(i + 1, ob ++ (ex ++ ex2)), by simp, ⟨hlt, ⟨_, rfl⟩, fun x hx => ?_⟩, by simp only; omega⟩
     simp only at hx
     rw [List.take_succ_eq_append_getElem hlt, List.mem_append, List.mem_singleton] at hx
     rcases hx with hx | rfl
     ·exact hn x hx
     ·exact hm
   ·have d : decide ((i : Int) < (P.length : Int)) = false := by simpa using hlt
    rw [List.take_of_length_le (by omega)] at hn
    simp only [U146, d, seval, bA]
    exact ⟨_, rfl, .inr ⟨List.find?_eq_none.2 (by simpa using hn), rfl⟩, ex, rfl⟩
def cM (P : List Mis) (k : Int) : Mis := (P.find? fun x => x.at_ == k).getD zeroM
theorem count_i (h : NandAt T ob g N B E ops pl pk P) : ICall Tryz.prog 112 [.ref N 0] ob fun r ob' => r = .agg (rowM (cM P (ops + 1))) ∧ ∃ ex, ob' = ob.set N (boxN g B (ops + 1) pl) ++ ex := by
 refine icall_dr Tryz.func112 E112.h ?_
 have hN := h.hN
 have h0 := h.ops0
 have h1 := h.ops1
 have hlt := lt_ofN hN
 have w1 : IntKind.i64.wrap (ops + 1) = ops + 1 := wrapI (by omega) (by omega)
 have hN2 : ∀ l, (ob ++ l)[N]? = some (boxN g B ops pl) := fun l => apN hN l
 have g0 : ∀ l, (ob ++ l)[ob.length]? = l[0]? := fun l => by rw [List.getElem?_append_right (Nat.le_refl _)]; simp
 have g1 : ∀ l, (ob ++ l)[ob.length + 1]? = l[1]? := fun l => by rw [List.getElem?_append_right (by omega)]; simp
 have s1 : ∀ (l : List AObj) c, (ob ++ l).set N c = ob.set N c ++ l := fun l c => by rw [List.set_append_left _ _ hlt]
 have q0 : ∀ c l, (ob.set N c ++ l)[ob.length]? = l[0]? := fun c l => by rw [List.getElem?_append_right (by simp)]; simp
 have q1 : ∀ c l, (ob.set N c ++ l)[ob.length + 1]? = l[1]? := fun c l => by rw [List.getElem?_append_right (by simp)]; simp
 have q2 : ∀ c l, (ob.set N c ++ l)[N]? = some c := fun c l => by rw [List.getElem?_append_left (by simpa using hlt)]; exact set_get hN
 have s2 : ∀ c (l : List AObj) x, (ob.set N c ++ l).set (ob.length + 1) x = ob.set N c ++ l.set 1 x := fun c l x => by rw [List.set_append_right _ _ (by simp)]; simp
 have hpl2 : ∀ c l, PlAt (ob.set N c ++ l) pl pk P := fun c l => by
  rcases h.pln with g | ⟨g, g'⟩
  ·exact .inl g
  ·refine .inr ⟨g, apN ?_ l⟩
   rw [List.getElem?_set_ne]; · exact g'
   rintro rfl; rw [hN] at g'; cases g'
 simp only [U112, hN2, g0, g1, s1, w1, q0, q1, q2, seval, bA]
 refine callM (idx_i (q0 _ _) (q2 _ _) (hpl2 _ _) h.pl1) ?_
 rintro r ob' ⟨hI, ex, rfl⟩
 rcases hI with ⟨i, m, hi, hf, rfl⟩ | ⟨hf, rfl⟩
 ·have d : decide (((i : Nat) : Int) < 0) = false := by simp
  have hm : cM P (ops + 1) = m := by rw [cM, hf]; rfl
  rw [hm]
  have hlt2 := lt_ofM hi
  have hPi : P[i] = m := by rw [List.getElem?_eq_getElem hlt2] at hi; exact Option.some.inj hi
  have hpl3 : pl = .osl pk 0 P.length := by
   rcases h.pln with ⟨g, _⟩ | ⟨g, _⟩
   ·rw [g] at hlt2; simp at hlt2
   ·exact g
  have p2 : ∀ c l, (ob.set N c ++ l)[pk]? = some (lM P) := fun c l => by
   rcases hpl2 c l with ⟨g, _⟩ | ⟨_, g⟩
   ·rw [g] at hlt2; simp at hlt2
   ·exact g
  have i1 := islO_map (g := rowM) (l := P) (e := 4) (o := pk) (m := P.length) (k := .i64) rfl hlt2
  have i2 := ldL_map (g := rowM) (l := P) (e := 4) (len := P.length) (off := 0) (n := 4) rfl hlt2 (by simp [rowM])
  have i3 : ((rowM P[i]).drop 0).take 4 = rowM P[i] := by simp [rowM]
  rw [i3, hPi] at i2
  simp only [List.append_assoc]
  subst hpl3
  simp only [U112, hN2, g0, g1, s1, w1, q0, q1, q2, s2, d, p2, i1, i2, rowM, seval, bA]
  exact ⟨_, rfl, rfl, _, rfl⟩
 ·have hm : cM P (ops + 1) = zeroM := by rw [cM, hf]; rfl
  rw [hm]
  simp only [List.append_assoc]
  simp only [U112, hN2, g0, g1, s1, w1, q0, q1, q2, s2, rowM, zeroM, seval, bA]
  exact ⟨_, rfl, rfl, _, rfl⟩
end
end Go.Proofs.YtdgpiobmncohjaaGreatDoor.Aw
