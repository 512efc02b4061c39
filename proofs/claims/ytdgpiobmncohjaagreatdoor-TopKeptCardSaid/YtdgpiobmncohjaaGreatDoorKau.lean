/-
 An extent put below an inner node: the walk.; Two nodes side by side share anew what both have.; A kid that is too small brought to its size.; What layer 7's statements say of lists that may be. Plain Lean.
-/
import Derived.Test.YtdgpiobmncohjaaGreatDoorKat
import Derived.Test.YtdgpiobmncohjaaGreatDoorKaq
set_option linter.all false
set_option maxRecDepth 100000
namespace Go.Proofs.YtdgpiobmncohjaaGreatDoor.Aw
open Go.RowKit Ar
theorem Node.same [Fr] {ob ob' : List AObj} {T : Nat → Prop} {h : Nat} {k : Kd} (hN : Node ob h k) (hS : Same ob ob' T) (hT : ∀ i ∈ k.fp, ¬ T i) : Node ob' h k := hN.frame fun i hi => hS.2 i (hN.lt i hi) (hT i hi)
theorem InnerAt.same [Fr] {ob ob' : List AObj} {T : Nat → Prop} {h : Nat} {k : Kd} {q off c : Nat} {ks : List Kd} (hI : InnerAt ob h k q off c ks) (hS : Same ob ob' T) (hp : ¬ T k.p) (hq : ¬ T q) : InnerAt ob' h k q off c ks := by
 obtain ⟨a, hb, whb⟩ := hI.bx
 exact ⟨hI.fp, hI.nd, hI.sz, hI.fl, ⟨a, hS.get hb hp, whb⟩, hS.arr hI.ar hq, hI.cb⟩
def InsSpec [Fr] (h : Nat) : Prop := ∀ {ob : List AObj} {k : Kd} {e : Xt}, Node ob h k → 1 ≤ k.s → k.s ≤ 8 → SortX k.l → BdX k.l → (0 ≤ e.fr ∧ e.fr ≤ 16777216) → ICall Tryz.prog 130 [nodeV h k, pE e] ob (InsR ob h k e)
theorem split_nodup {p q r t : Nat} {L R : List Nat} (h : (p :: q :: (L ++ R)).Nodup) (h1 : ∀ i ∈ p :: q :: (L ++ R), i < r ∧ i ≠ t) (hrt : r ≠ t) : ((p :: q :: L) ++ (r :: t :: R)).Nodup := by
 have e1 : ((p :: q :: L) ++ (r :: t :: R)).Perm (r :: t :: (p :: q :: (L ++ R))) := by
  refine List.perm_middle.trans (List.Perm.cons _ ?_)
  exact List.perm_middle
 rw [e1.nodup_iff]
 simp only [List.nodup_cons, List.mem_cons]
 refine ⟨?_, ?_, by simpa using h⟩
 ·rintro (hh | hh | hh | hh)
  ·exact hrt hh
  ·have := h1 p (by simp); omega
  ·have := h1 q (by simp); omega
  ·have := h1 r (by simp [List.mem_append.1 hh]); omega
 ·rintro (hh | hh | hh)
  ·exact (h1 p (by simp)).2 hh.symm
  ·exact (h1 q (by simp)).2 hh.symm
  ·exact (h1 t (by simp [List.mem_append.1 hh])).2 rfl
theorem nodup_q {p q q' : Nat} {L : List Nat} (h : (p :: q :: L).Nodup) (hq : q' = q ∨ ∀ i ∈ p :: L, i ≠ q') : (p :: q' :: L).Nodup := by
 rcases hq with rfl | hq
 ·exact h
 ·simp only [List.nodup_cons, List.mem_cons, not_or] at h ⊢
  exact ⟨⟨hq p (by simp), h.1.2⟩, fun hm => hq q' (by simp [hm]) rfl, h.2.2⟩
theorem insert_inner [Fr] {h : Nat} (IH : InsSpec h) : InsSpec (h + 1) := by
 intro ob k e hN hs1 h8 hs hb he
 obtain ⟨q, off, c, ks, hI, hk⟩ := hN
 have hN : Node ob (h + 1) k := ⟨q, off, c, ks, hI, hk⟩
 obtain ⟨a, hbx, whbx⟩ := hI.bx
 have hsz := hI.sz
 have hfl := hI.fl
 have h0 : 0 < ks.length := by omega
 obtain ⟨A, x, B, hAb⟩ := about (v := e.fr) (by rw [hI.fl] at hs; exact hs) (fun x hx => (hk x hx).1.ne (by have := (hk x hx).2.1; omega)) h0
 have hKs := kids_of hI hk hAb.eq
 have hp := hKs.lt k.p (by rw [hKs.fp]; simp)
 have hq := hI.ar.lt
 have hpq := hKs.pq
 rw [nodeV_s]
 refine icall_dr Tryz.func130 E130.h ?_
 simp only [U130, rowE, seval, bA]
 refine callX (mW (h + 1)) (callM (where_i (h + 1) k.p) ?_)
 rintro r ob' ⟨rfl, rfl⟩
 have f0 := app1 hbx [AObj.box (rowE e)]
 have f1 := app0 ob (AObj.box (rowE e))
 have hS0 : Same ob (ob ++ [AObj.box (rowE e)]) (fun _ => False) := Same.app _ _ _
 have hl0 : (ob ++ [AObj.box (rowE e)]).length = ob.length + 1 := by simp
 simp only [rowE] at f0 f1 hS0 hl0
 generalize ob ++ [AObj.box [.int .i64 e.fr, .int .i64 e.n, .int .i64 e.kd, .int .i64 e.at_]] = ob1 at *
 have g1 := setS (ob := ob1) (p := k.p) (by omega)
 have g2 : ∀ x, (ob1.set k.p x)[ob.length]? = _ := fun x => setO (x := x) (by omega) f1
 simp only [U130, rowE, f0, g1, g2, ldB1, seval, bA]
 have hS1 : Same ob (ob1.set k.p (AObj.box [.int .i64 (-1), .asl q off k.s c])) (· = k.p) := (hS0.mono (fun j h => h.elim)).trans (Same.set rfl)
 have f2 := g1 (AObj.box [.int .i64 (-1), .asl q off k.s c])
 have f3 := g2 (AObj.box [.int .i64 (-1), .asl q off k.s c])
 have hl1 : (ob1.set k.p (AObj.box [.int .i64 (-1), .asl q off k.s c])).length = ob.length + 1 := by rw [List.length_set, hl0]
 generalize ob1.set k.p (AObj.box [.int .i64 (-1), .asl q off k.s c]) = ob2 at *
 have hA2 := hS1.arr hI.ar (Ne.symm hpq)
 have hI2 : InnerAt ob2 h k q off c ks := ⟨hI.fp, hI.nd, hI.sz, hI.fl, ⟨-1, f2, Fr.fresh _ _ _⟩, hA2, hI.cb⟩
 have hx2 := hKs.me.1.same hS1 (fun i hi e => hKs.px (e ▸ hi))
 have ho2 : ∀ y, y ∈ A ∨ y ∈ B → Node ob2 h y := fun y hy => (hKs.oth y hy).1.same hS1 (fun i hi => ((hKs.oth y hy).2.2.2 i hi).2.1)
 have hk2 : ∀ y ∈ ks, Node ob2 h y ∧ 1 ≤ y.s := by
  intro y hy
  refine ⟨?_, by have := (hk y hy).2.1; omega⟩
  rw [hAb.eq] at hy
  rcases List.mem_append.1 hy with hy | hy
  ·exact ho2 y (.inl hy)
  ·rcases List.mem_cons.1 hy with rfl | hy
   ·exact hx2
   ·exact ho2 y (.inr hy)
 refine callR (under_r hI2 hk2 h0 (by omega) e.fr) ?_
 have hlen := hAb.len
 have hat := hAb.at
 generalize undF (keyK ks) e.fr (ks.length - 1) = i at *
 have hi : i < k.s := by have := (List.getElem?_eq_some_iff.1 hat).1; omega
 have d1 : decide (i < k.s) = true := decide_eq_true hi
 have hld := ldK hA2 (i := i) (x := nodeV h x) (by rw [List.getElem?_map, hat]; rfl)
 simp only [U130, rowE, f2, f3, ldB1, d1, hld, seval, bA]
 have hxl : SortX x.l := hAb.sort (by rw [hI.fl] at hs; exact hs)
 have hxb : BdX x.l := fun y hy => hb y (by rw [hI.fl, hAb.eq]; simp [hy])
 refine callM (IH hx2 (by have := hKs.me.2.1; omega) hKs.me.2.2 hxl hxb he) ?_
 rintro r ob3 ⟨x', hx', hxp, hS3, hcase⟩
 have hS3' : Same ob ob3 (· ∈ k.fp) := (hS1.mono (fun j (hj : j = k.p) => by subst hj; rw [hKs.fp]; simp)).trans (hS3.mono fun j hj => by rw [hKs.fp]; simp [hj])
 have hA3 := hS3.arr hA2 hKs.qx
 have f4 := hS3.get f2 hKs.px
 have ho3 : ∀ y, y ∈ A ∨ y ∈ B → Node ob3 h y := fun y hy => (ho2 y hy).same hS3 (fun i hi => ((hKs.oth y hy).2.2.2 i hi).1)
 have hl3 := hS3.1
 have hlo := hAb.lo
 have hhi := hAb.hi
 have hkl : k.l = A.flatMap (·.l) ++ (x.l ++ B.flatMap (·.l)) := by rw [hI.fl, hAb.eq, List.flatMap_append, List.flatMap_cons]
 have hins : insX e k.l = A.flatMap (·.l) ++ (insX e x.l ++ B.flatMap (·.l)) := by rw [hkl]; exact insX_mid hlo fun y hy => Int.le_of_lt (hhi y hy)
 have hss := hKs.me.2
 have hkn : ks.length = A.length + (1 + B.length) := by rw [hAb.eq, List.length_append, List.length_cons]; omega
 have hnd0 : ((k.p :: q :: A.flatMap (·.fp)) ++ (x.fp ++ B.flatMap (·.fp))).Nodup := by have := hKs.nd; rw [hKs.fp] at this; exact this
 have hlt0 : ∀ i ∈ (k.p :: q :: A.flatMap (·.fp)) ++ (x.fp ++ B.flatMap (·.fp)), i < ob2.length := by
  intro i hi
  have := hKs.lt i (by rw [hKs.fp]; exact hi)
  omega
 rcases hcase with ⟨rfl, hl', hsx, hs8, hsub⟩ | ⟨x2, rfl, hx2', hl', hs4, hs5, hsub, hndx⟩
 ·simp only [U130, seval, bA]
  have hnd : ((k.p :: q :: A.flatMap (·.fp)) ++ (x'.fp ++ B.flatMap (·.fp))).Nodup := nodup_swap hnd0 hlt0 hx'.nd hsub
  have hmap : (A ++ x' :: B).map (nodeV h) = ks.map (nodeV h) := by rw [hAb.eq, List.map_append, List.map_cons, List.map_append, List.map_cons]; simp only [nodeV, hxp]
  have hkn' : (A ++ x' :: B).length = k.s := by rw [hsz, hkn, List.length_append, List.length_cons]; omega
  refine ⟨_, rfl, ⟨⟨k.p, (A ++ x' :: B).flatMap (·.l), (A ++ x' :: B).length, k.p :: q :: (A ++ x' :: B).flatMap (·.fp)⟩, mkInner (off := off) (c := c) ⟨-1, by rw [hkn']; exact f4, Fr.fresh _ _ _⟩ (by rw [hkn', hmap]; exact hA3) hI.cb ?_ ?_, rfl, hS3', .inl ⟨rfl, ?_, by simp only [hkn']; omega, by simp only [hkn']; omega, ?_⟩⟩⟩
  ·rw [List.flatMap_append, List.flatMap_cons]; exact hnd
  ·intro y hy
   rcases List.mem_append.1 hy with hy | hy
   ·exact ⟨ho3 y (.inl hy), (hKs.oth y (.inl hy)).2.1, (hKs.oth y (.inl hy)).2.2.1⟩
   ·rcases List.mem_cons.1 hy with rfl | hy
    ·exact ⟨hx', by omega, hs8⟩
    ·exact ⟨ho3 y (.inr hy), (hKs.oth y (.inr hy)).2.1, (hKs.oth y (.inr hy)).2.2.1⟩
  ·simp only []
   rw [hins, List.flatMap_append, List.flatMap_cons, hl']
  ·intro j hj
   simp only [List.flatMap_append, List.flatMap_cons, List.mem_cons, List.mem_append] at hj
   rw [hKs.fp]
   simp only [List.mem_cons, List.mem_append]
   rcases hj with rfl | rfl | hj | hj | hj
   ·exact .inl (.inl rfl)
   ·exact .inl (.inr (.inl rfl))
   ·exact .inl (.inr (.inr (.inl hj)))
   ·rcases hsub j hj with h | h
    ·exact .inl (.inr (.inr (.inr (.inl h))))
    ·exact .inr (by omega)
   ·exact .inl (.inr (.inr (.inr (.inr hj))))
 ·have w1 : IntKind.i64.wrap ((i : Int) + 1) = ((i + 1 : Nat) : Int) := by rw [wrapI (by omega) (by omega)]; omega
  have hnv : (nodeV h x2).cell? = true := rfl
  simp only [U130, nodeV, f4, ldB1, w1, List.replicate_succ, List.replicate_zero, List.set_cons_zero, seval, bA]
  have hS4 : Same ob3 (ob3 ++ [AObj.box [nodeV h x2]]) (fun _ => False) := Same.app _ _ _
  have hq4 : Arr (ob3 ++ [AObj.box [nodeV h x2]]) 1 ob3.length 0 1 1 [nodeV h x2] := ⟨[nodeV h x2], app0 _ _, Nat.le_refl _, by simp, by simp⟩
  have hl4 : (ob3 ++ [AObj.box [nodeV h x2]]).length = ob3.length + 1 := by simp
  simp only [nodeV] at hS4 hq4 hl4
  generalize ob3 ++ [AObj.box [.ifc (tyN h) (.ref x2.p 0)]] = ob4 at *
  have hq3 : q < ob3.length := hA3.lt
  refine callM (insN (hS4.arr hA3 (fun h => h)) hq4 (by omega) (by omega) (by omega) hI.cb) ?_
  rintro r ob5 ⟨q', off', c', rfl, hX, hq', hS5, hcb⟩
  obtain ⟨ks', hks'⟩ : ∃ ks', ks' = A ++ x' :: x2 :: B := ⟨_, rfl⟩
  have hkn' : ks'.length = k.s + 1 := by rw [hks', hsz, hkn, List.length_append, List.length_cons, List.length_cons]; omega
  have hmap : ks'.map (nodeV h) = (ks.map (nodeV h)).take ((i + 1) * 1) ++ ([PV.ifc (tyN h) (.ref x2.p 0)] ++ (ks.map (nodeV h)).drop ((i + 1) * 1)) := by
   rw [Nat.mul_one, hks', hAb.eq]
   simp only [List.map_append, List.map_cons]
   have e1 : (A.map (nodeV h)).length = i := by rw [List.length_map]; exact hlen
   rw [← hlen, List.take_append, List.drop_append]
   simp [nodeV, hxp]
   rw [List.take_of_length_le (by simp), List.drop_eq_nil_of_le (by simp)]
   simp
  rw [← hmap] at hX
  have hl5 := hS5.1
  have hx3 : ∀ i ∈ x'.fp ++ x2.fp, i < ob3.length := by
   intro j hj
   rcases List.mem_append.1 hj with hj | hj
   ·exact hx'.lt j hj
   ·exact hx2'.lt j hj
  have havoid : ∀ y ∈ ks', ∀ i ∈ y.fp, i ≠ q' ∧ i ≠ k.p ∧ i < ob3.length := by
   intro y hy j hj
   rw [hks'] at hy
   have key : j < ob3.length ∧ j ≠ q ∧ j ≠ k.p := by
    have hnew : ∀ t ∈ x'.fp ++ x2.fp, t ≠ q ∧ t ≠ k.p := by
     intro t ht
     rcases hsub t ht with h | h
     ·exact ⟨fun e => hKs.qx (e ▸ h), fun e => hKs.px (e ▸ h)⟩
     ·exact ⟨by omega, by omega⟩
    rcases List.mem_append.1 hy with hy | hy
    ·have := (hKs.oth y (.inl hy)).2.2.2 j hj
     exact ⟨(ho3 y (.inl hy)).lt j hj, this.2.2, this.2.1⟩
    ·rcases List.mem_cons.1 hy with rfl | hy
     ·exact ⟨hx3 j (by simp [hj]), hnew j (by simp [hj])⟩
     ·rcases List.mem_cons.1 hy with rfl | hy
      ·exact ⟨hx3 j (by simp [hj]), hnew j (by simp [hj])⟩
      ·have := (hKs.oth y (.inr hy)).2.2.2 j hj
       exact ⟨(ho3 y (.inr hy)).lt j hj, this.2.2, this.2.1⟩
   refine ⟨?_, key.2.2, key.1⟩
   rcases hq' with h | h
   ·rw [h]; exact key.2.1
   ·omega
  have hkk : ∀ y ∈ ks', Node ob5 h y ∧ 4 ≤ y.s ∧ y.s ≤ 8 := by
   intro y hy
   have h3 : Node ob3 h y ∧ 4 ≤ y.s ∧ y.s ≤ 8 := by
    rw [hks'] at hy
    rcases List.mem_append.1 hy with hy | hy
    ·exact ⟨ho3 y (.inl hy), (hKs.oth y (.inl hy)).2.1, (hKs.oth y (.inl hy)).2.2.1⟩
    ·rcases List.mem_cons.1 hy with rfl | hy
     ·exact ⟨hx', by omega, by omega⟩
     ·rcases List.mem_cons.1 hy with rfl | hy
      ·exact ⟨hx2', by omega, by omega⟩
      ·exact ⟨ho3 y (.inr hy), (hKs.oth y (.inr hy)).2.1, (hKs.oth y (.inr hy)).2.2.1⟩
   exact ⟨(h3.1.same hS4 (fun _ _ h => h)).same hS5 (fun i hi => (havoid y hy i hi).1), h3.2⟩
  have hpq' : k.p ≠ q' := by rcases hq' with h | h <;> omega
  have f5 := hS4.get f4 (fun h => h)
  have f6 := hS5.get f5 hpq'
  have hp5 : k.p < ob5.length := (List.getElem?_eq_some_iff.1 f6).1
  have g3 := setS hp5
  have hX6 := (Same.set (ob := ob5) (a := AObj.box [.int .i64 (-1), .asl q' off' (k.s + 1) c']) (T := (· = k.p)) rfl).arr hX (Ne.symm hpq')
  have hk6 : ∀ y ∈ ks', Node (ob5.set k.p (AObj.box [.int .i64 (-1), .asl q' off' (k.s + 1) c'])) h y ∧ 4 ≤ y.s ∧ y.s ≤ 8 := fun y hy => ⟨(hkk y hy).1.same (Same.set (T := (· = k.p)) rfl) (fun i hi => (havoid y hy i hi).2.1), (hkk y hy).2⟩
  have hS6 : Same ob (ob5.set k.p (AObj.box [.int .i64 (-1), .asl q' off' (k.s + 1) c'])) (· ∈ k.fp) := by
   have h1 : Same ob ob4 (· ∈ k.fp) := hS3'.trans (hS4.mono fun j h => h.elim)
   have l3 := hS3'.1
   refine ⟨by rw [List.length_set]; omega, fun j hj hT => ?_⟩
   rw [List.getElem?_set_ne (by rintro rfl; exact hT (by rw [hKs.fp]; simp))]
   refine (hS5.2 j (by omega) ?_).trans (h1.2 j hj hT)
   rintro rfl
   rcases hq' with h | h
   ·exact hT (by rw [hKs.fp, h]; simp)
   ·omega
  have hnd1 : ((k.p :: q :: A.flatMap (·.fp)) ++ ((x'.fp ++ x2.fp) ++ B.flatMap (·.fp))).Nodup := nodup_swap hnd0 hlt0 hndx hsub
  have hfpe : ks'.flatMap (·.fp) = A.flatMap (·.fp) ++ ((x'.fp ++ x2.fp) ++ B.flatMap (·.fp)) := by rw [hks', List.flatMap_append, List.flatMap_cons, List.flatMap_cons, List.append_assoc]
  have hfle : ks'.flatMap (·.l) = insX e k.l := by rw [hins, ← hl', hks', List.flatMap_append, List.flatMap_cons, List.flatMap_cons, List.append_assoc]
  have hltk : ∀ i ∈ k.p :: ks'.flatMap (·.fp), i < ob3.length := by
   intro j hj
   rcases List.mem_cons.1 hj with rfl | hj
   ·omega
   ·obtain ⟨y, hy, hj⟩ := List.mem_flatMap.1 hj
    exact (havoid y hy j hj).2.2
  have hnd2 : (k.p :: q' :: ks'.flatMap (·.fp)).Nodup := by
   refine nodup_q (q := q) (by rw [hfpe]; exact hnd1) ?_
   rcases hq' with h | h
   ·exact .inl h
   ·exact .inr fun j hj => by have := hltk j hj; omega
  have l2 : ob.length ≤ ob2.length := hS1.1
  have hsubk : ∀ j ∈ k.p :: q' :: ks'.flatMap (·.fp), j ∈ k.fp ∨ ob.length ≤ j := by
   intro j hj
   rw [hfpe] at hj
   simp only [List.mem_cons, List.mem_append] at hj
   rw [hKs.fp]
   simp only [List.mem_cons, List.mem_append]
   rcases hj with rfl | rfl | hj | (hj | hj) | hj
   ·exact .inl (.inl rfl)
   ·rcases hq' with h | h
    ·exact .inl (.inr (.inl h))
    ·exact .inr (by omega)
   ·exact .inl (.inr (.inr (.inl hj)))
   ·rcases hsub j (by simp [hj]) with h | h
    ·exact .inl (.inr (.inr (.inr (.inl h))))
    ·exact .inr (by omega)
   ·rcases hsub j (by simp [hj]) with h | h
    ·exact .inl (.inr (.inr (.inr (.inl h))))
    ·exact .inr (by omega)
   ·exact .inl (.inr (.inr (.inr (.inr hj))))
  by_cases h9 : 8 < k.s + 1
  ·have d9 : decide ((8 : Int) < ((k.s + 1 : Nat) : Int)) = true := decide_eq_true (by omega)
   have h88 : k.s = 8 := by omega
   simp only [U130, f6, g3, ldB1, d9, seval, bA]
   have f7 := g3 (AObj.box [.int .i64 (-1), .asl q' off' (k.s + 1) c'])
   have hl6 : (ob5.set k.p (AObj.box [.int .i64 (-1), .asl q' off' (k.s + 1) c'])).length = ob5.length := by rw [List.length_set]
   generalize ob5.set k.p (AObj.box [.int .i64 (-1), .asl q' off' (k.s + 1) c']) = ob6 at *
   have f8 := app0 ob6
   have g4 : ∀ x, (ob6 ++ [x])[k.p]? = _ := fun x => app1 f7 [x]
   simp only [U130, f8, g4, ldB1, seval, bA]
   have hX7 := (Same.app ob6 [AObj.box [.int .i64 (-1), .slc []]] (fun _ => False)).arr hX6 (fun h => h)
   have hk7 : ∀ y ∈ ks', Node (ob6 ++ [AObj.box [.int .i64 (-1), .slc []]]) h y ∧ 4 ≤ y.s ∧ y.s ≤ 8 := fun y hy => ⟨(hk6 y hy).1.same (Same.app _ _ (fun _ => False)) (fun _ _ h => h), (hk6 y hy).2⟩
   have hS7 : Same ob (ob6 ++ [AObj.box [.int .i64 (-1), .slc []]]) (· ∈ k.fp) := hS6.trans (Same.app _ _ _)
   have f9 := f8 (AObj.box [.int .i64 (-1), .slc []])
   rw [hl6] at f9
   have f10 := g4 (AObj.box [.int .i64 (-1), .slc []])
   have hl7 : (ob6 ++ [AObj.box [.int .i64 (-1), .slc []]]).length = ob5.length + 1 := by rw [List.length_append, hl6]; rfl
   generalize ob6 ++ [AObj.box [.int .i64 (-1), .slc []]] = ob7 at *
   refine callM (splitN hX7 (by omega) (by omega) hcb) ?_
   rintro r ob8 ⟨q2, c2, rfl, hY, hZ, hq2, hc2, hS8⟩
   have e1 : (k.s + 1) / 2 = 4 := by omega
   have e2 : k.s + 1 - 4 = 5 := by omega
   rw [e1] at hY hZ
   rw [e2] at hZ
   have hk8 : ∀ y ∈ ks', Node ob8 h y ∧ 4 ≤ y.s ∧ y.s ≤ 8 := fun y hy => ⟨(hk7 y hy).1.same hS8 (fun _ _ h => h), (hk7 y hy).2⟩
   have hS8' : Same ob ob8 (· ∈ k.fp) := hS7.trans (hS8.mono fun j h => h.elim)
   have f11 := hS8.get f10 (fun h => h)
   have f12 := hS8.get f9 (fun h => h)
   have l7 := hS8.1
   have hp8 : k.p < ob8.length := (List.getElem?_eq_some_iff.1 f11).1
   have g5 := setS hp8
   have hne : k.p ≠ ob5.length := by omega
   have g6 : ∀ x, (ob8.set k.p x)[ob5.length]? = _ := fun x => setO (x := x) hne f12
   simp only [U130, f11, f12, g5, g6, ldB1, e1, e2, seval, bA]
   have hpq2 : k.p ≠ q2 := by omega
   have hq'5 : q' ≠ ob5.length := by have := hX.lt; omega
   have hY1 := (Same.set (ob := ob8) (a := AObj.box [.int .i64 (-1), .asl q' off' 4 4]) (T := (· = k.p)) rfl).arr hY (Ne.symm hpq')
   have hZ1 := (Same.set (ob := ob8) (a := AObj.box [.int .i64 (-1), .asl q' off' 4 4]) (T := (· = k.p)) rfl).arr hZ (Ne.symm hpq2)
   have hk9 : ∀ y ∈ ks', Node (ob8.set k.p (AObj.box [.int .i64 (-1), .asl q' off' 4 4])) h y ∧ 4 ≤ y.s ∧ y.s ≤ 8 := fun y hy => ⟨(hk8 y hy).1.same (Same.set (T := (· = k.p)) rfl) (fun i hi => (havoid y hy i hi).2.1), (hk8 y hy).2⟩
   have hS9 : Same ob (ob8.set k.p (AObj.box [.int .i64 (-1), .asl q' off' 4 4])) (· ∈ k.fp) := hS8'.trans (Same.set (by rw [hKs.fp]; simp))
   have f13 := g5 (AObj.box [.int .i64 (-1), .asl q' off' 4 4])
   have hl9 : (ob8.set k.p (AObj.box [.int .i64 (-1), .asl q' off' 4 4])).length = ob8.length := by rw [List.length_set]
   generalize ob8.set k.p (AObj.box [.int .i64 (-1), .asl q' off' 4 4]) = ob9 at *
   have hq25 : q2 ≠ ob5.length := by omega
   have hr9 : ob5.length < ob9.length := by omega
   have g7 := setS hr9 (AObj.box [.int .i64 (-1), .asl q2 0 5 c2])
   have f14 := setO (x := AObj.box [.int .i64 (-1), .asl q2 0 5 c2]) (Ne.symm hne) f13
   have hT : Same ob9 (ob9.set ob5.length (AObj.box [.int .i64 (-1), .asl q2 0 5 c2])) (· = ob5.length) := Same.set rfl
   have hY2 := hT.arr hY1 hq'5
   have hZ2 := hT.arr hZ1 hq25
   have hk10 : ∀ y ∈ ks', Node (ob9.set ob5.length (AObj.box [.int .i64 (-1), .asl q2 0 5 c2])) h y ∧ 4 ≤ y.s ∧ y.s ≤ 8 := fun y hy => ⟨(hk9 y hy).1.same hT (fun i hi => by have := (havoid y hy i hi).2.2; omega), (hk9 y hy).2⟩
   have l3 := hS3'.1
   have hlen5 : ob.length ≤ ob5.length := by omega
   have hS10 : Same ob (ob9.set ob5.length (AObj.box [.int .i64 (-1), .asl q2 0 5 c2])) (· ∈ k.fp) :=
    ⟨by rw [List.length_set]; omega, fun j hj hT => by rw [List.getElem?_set_ne (by omega)]; exact hS9.2 j hj hT⟩
   have hL4 : (ks'.take 4).length = 4 := by rw [List.length_take, hkn']; omega
   have hR5 : (ks'.drop 4).length = 5 := by rw [List.length_drop, hkn']; omega
   rw [Nat.mul_one, ← List.map_take] at hY2
   rw [Nat.mul_one, ← List.map_drop] at hZ2
   have hsp : ks'.flatMap (·.fp) = (ks'.take 4).flatMap (·.fp) ++ (ks'.drop 4).flatMap (·.fp) := by rw [← List.flatMap_append, List.take_append_drop]
   have hq'b : q' < ob5.length := hX.lt
   have hndT : ((k.p :: q' :: (ks'.take 4).flatMap (·.fp)) ++ (ob5.length :: q2 :: (ks'.drop 4).flatMap (·.fp))).Nodup := by
    refine split_nodup (by rw [← hsp]; exact hnd2) (fun j hj => ?_) (Ne.symm hq25)
    rw [← hsp] at hj
    rcases List.mem_cons.1 hj with rfl | hj
    ·exact ⟨hp5, hpq2⟩
    ·rcases List.mem_cons.1 hj with rfl | hj
     ·exact ⟨hq'b, by omega⟩
     ·have := hltk j (by simp [hj]); exact ⟨by omega, by omega⟩
   have hnd3 := List.nodup_append.1 hndT
   refine ⟨_, rfl, ⟨⟨k.p, (ks'.take 4).flatMap (·.l), (ks'.take 4).length, k.p :: q' :: (ks'.take 4).flatMap (·.fp)⟩, mkInner (off := off') (c := 4) ⟨-1, by rw [hL4]; exact f14, Fr.fresh _ _ _⟩ (by rw [hL4]; exact hY2) (by omega) hnd3.1 (fun y hy => hk10 y (List.mem_of_mem_take hy)), rfl, hS10,
    .inr ⟨⟨ob5.length, (ks'.drop 4).flatMap (·.l), (ks'.drop 4).length, ob5.length :: q2 :: (ks'.drop 4).flatMap (·.fp)⟩, rfl, mkInner (off := 0) (c := c2) ⟨-1, by rw [hR5]; exact g7, Fr.fresh _ _ _⟩ (by rw [hR5]; exact hZ2) hc2 hnd3.2.1 (fun y hy => hk10 y (List.mem_of_mem_drop hy)), ?_, hL4, hR5, ?_, hndT⟩⟩⟩
   ·simp only []
    rw [← List.flatMap_append, List.take_append_drop]; exact hfle
   ·intro j hj
    rcases List.mem_append.1 hj with hj | hj
    ·refine hsubk j ?_
     rw [hsp]
     simp only [List.mem_cons, List.mem_append] at hj ⊢
     rcases hj with h | h | h
     ·exact .inl h
     ·exact .inr (.inl h)
     ·exact .inr (.inr (.inl h))
    ·rcases List.mem_cons.1 hj with rfl | hj
     ·exact .inr hlen5
     ·rcases List.mem_cons.1 hj with rfl | hj
      ·exact .inr (by omega)
      ·refine hsubk j ?_
       rw [hsp]
       simp only [List.mem_cons, List.mem_append]
       exact .inr (.inr (.inr hj))
  ·have d9 : decide ((8 : Int) < ((k.s + 1 : Nat) : Int)) = false := decide_eq_false (by omega)
   simp only [U130, f6, g3, ldB1, d9, seval, bA]
   refine ⟨_, rfl, ⟨⟨k.p, ks'.flatMap (·.l), ks'.length, k.p :: q' :: ks'.flatMap (·.fp)⟩, mkInner (off := off') (c := c') ⟨-1, by rw [hkn']; exact g3 _, Fr.fresh _ _ _⟩ (by rw [hkn']; exact hX6) hcb hnd2 hk6, rfl, hS6, .inl ⟨rfl, hfle, by simp only [hkn']; omega, by simp only [hkn']; omega, hsubk⟩⟩⟩
theorem insert_i [Fr] : ∀ h, InsSpec h
 | 0 => fun hN _ h8 hs hb he => insert_leaf hN h8 hs hb he
 | h + 1 => insert_inner (insert_i h)
open Go.RowKit Ar
structure ShiftR [Fr] (ob : List AObj) (h : Nat) (x y : Kd) (k : Nat) (ob' : List AObj) : Prop where
 ex : ∃ x' y', Node ob' h x' ∧ Node ob' h y' ∧ x'.p = x.p ∧ y'.p = y.p ∧ x'.s = k ∧ y'.s = x.s + y.s - k ∧ x'.l ++ y'.l = x.l ++ y.l ∧ (x'.fp ++ y'.fp).Nodup ∧ Sub ob (x.fp ++ y.fp) (x'.fp ++ y'.fp) ∧ Same ob ob' (· ∈ x.fp ++ y.fp)
theorem four_perm {p q r t : Nat} {L R : List Nat} : ((p :: q :: L) ++ (r :: t :: R)).Perm (q :: t :: p :: r :: (L ++ R)) := by
 have e1 : ((p :: q :: L) ++ (r :: t :: R)).Perm (r :: t :: (p :: q :: (L ++ R))) := by
  refine List.perm_middle.trans (List.Perm.cons _ ?_)
  exact List.perm_middle
 refine e1.trans ?_
 -- r t p q S ~ q t p r S
 refine (List.Perm.cons r (List.Perm.cons t (List.Perm.swap q p (L ++ R)))).trans ?_
 refine (List.Perm.cons r (List.Perm.swap q t (p :: (L ++ R)))).trans ?_
 refine (List.Perm.swap q r (t :: p :: (L ++ R))).trans ?_
 refine List.Perm.cons q ?_
 refine (List.Perm.swap t r (p :: (L ++ R))).trans ?_
 exact List.Perm.cons t (List.Perm.swap p r (L ++ R))
theorem shift_nodup {p q r t q' t' n : Nat} {X Y L R : List Nat} (h : ((p :: q :: X) ++ (r :: t :: Y)).Nodup) (hlt : ∀ i ∈ (p :: q :: X) ++ (r :: t :: Y), i < n) (e : L ++ R = X ++ Y) (hq : n ≤ q') (ht : n ≤ t') (hqt : q' ≠ t') : ((p :: q' :: L) ++ (r :: t' :: R)).Nodup := by
 rw [four_perm.nodup_iff] at h ⊢
 rw [e]
 have h1 : (p :: r :: (X ++ Y)).Nodup := (List.nodup_cons.1 (List.nodup_cons.1 h).2).2
 have hl : ∀ i ∈ p :: r :: (X ++ Y), i < n := fun i hi => hlt i (by
  simp only [List.mem_cons, List.mem_append] at hi ⊢
  rcases hi with h | h | h | h
  ·exact .inl (.inl h)
  ·exact .inr (.inl h)
  ·exact .inl (.inr (.inr h))
  ·exact .inr (.inr (.inr h)))
 refine List.nodup_cons.2 ⟨?_, List.nodup_cons.2 ⟨?_, h1⟩⟩
 ·rw [List.mem_cons]
  rintro (h | h)
  ·exact hqt h
  ·have := hl q' h; omega
 ·intro h
  have := hl t' h; omega
theorem shift_i [Fr] : ∀ {h : Nat} {ob : List AObj} {x y : Kd} {k : Nat}, Node ob h x → Node ob h y → (x.fp ++ y.fp).Nodup → 0 < x.s + y.s → k ≤ x.s + y.s → x.s + y.s ≤ 1000 →
  ICall Tryz.prog 180 [nodeV h x, nodeV h y, .int .i64 (k : Int)] ob fun _ ob' => ShiftR ob h x y k ob' := by
 intro h ob x y k hx hy hnd h0 hk hn
 have hltx := hx.lt
 have hlty := hy.lt
 cases h with
 | zero =>
  obtain ⟨q, off, c, hX⟩ := hx
  obtain ⟨t, offt, ct, hY⟩ := hy
  obtain ⟨a, hbx, whbx⟩ := hX.bx
  obtain ⟨b, hby, whby⟩ := hY.bx
  rw [hX.fp, hY.fp] at hnd
  have hnd' := hnd
  simp only [List.cons_append, List.nil_append, List.nodup_cons, List.mem_cons, List.not_mem_nil, or_false, not_or, List.nodup_nil, and_true, not_false_eq_true] at hnd'
  obtain ⟨⟨m1, m2, m3⟩, ⟨m4, m5⟩, m6⟩ := hnd'
  have hpx := (List.getElem?_eq_some_iff.1 hbx).1
  have hpy := (List.getElem?_eq_some_iff.1 hby).1
  have hqx := hX.ar.lt
  have hqy := hY.ar.lt
  rw [nodeV_0, nodeV_0]
  refine icall_dr Tryz.func180 E180.h ?_
  simp only [U180, seval, bA]
  refine callX (mW 0) (callM (where_i 0 x.p) ?_)
  rintro r ob' ⟨rfl, hob'⟩; rw [hob']; clear hob' ob'
  simp only [U180, seval, bA]
  refine callX (mW 0) (callM (where_i 0 y.p) ?_)
  rintro r ob' ⟨rfl, hob'⟩; rw [hob']; clear hob' ob'
  have g1 := setS (ob := ob) (p := x.p) hpx
  have g2 : ∀ z, (ob.set x.p z)[y.p]? = _ := fun z => setO (x := z) m2 hby
  simp only [U180, hbx, g1, g2, seval, bA]
  have f1 := g1 (AObj.box [.int .i64 (-1), .asl q off x.s c])
  have f2 := g2 (AObj.box [.int .i64 (-1), .asl q off x.s c])
  have hA1 := (Same.set (ob := ob) (a := AObj.box [.int .i64 (-1), .asl q off x.s c]) (T := (· = x.p)) rfl).arr hX.ar (Ne.symm m1)
  have hB1 := (Same.set (ob := ob) (a := AObj.box [.int .i64 (-1), .asl q off x.s c]) (T := (· = x.p)) rfl).arr hY.ar (Ne.symm m3)
  have hS1 : Same ob (ob.set x.p (AObj.box [.int .i64 (-1), .asl q off x.s c])) (· ∈ x.fp ++ y.fp) := Same.set (by rw [hX.fp]; simp)
  have hl1 : (ob.set x.p (AObj.box [.int .i64 (-1), .asl q off x.s c])).length = ob.length := by rw [List.length_set]
  generalize ob.set x.p (AObj.box [.int .i64 (-1), .asl q off x.s c]) = ob1 at *
  have g3 := setS (ob := ob1) (p := y.p) (by omega)
  have g4 : ∀ z, (ob1.set y.p z)[x.p]? = _ := fun z => setO (x := z) (Ne.symm m2) f1
  simp only [U180, g3, g4, ldB1, seval, bA]
  have f3 := g3 (AObj.box [.int .i64 (-1), .asl t offt y.s ct])
  have f4 := g4 (AObj.box [.int .i64 (-1), .asl t offt y.s ct])
  have hT2 : Same ob1 (ob1.set y.p (AObj.box [.int .i64 (-1), .asl t offt y.s ct])) (· = y.p) := Same.set rfl
  have hA2 := hT2.arr hA1 (by simpa using m4)
  have hB2 := hT2.arr hB1 (Ne.symm m6)
  have hS2 : Same ob (ob1.set y.p (AObj.box [.int .i64 (-1), .asl t offt y.s ct])) (· ∈ x.fp ++ y.fp) := hS1.trans (Same.set (by rw [hY.fp]; simp))
  have hl2 : (ob1.set y.p (AObj.box [.int .i64 (-1), .asl t offt y.s ct])).length = ob.length := by rw [List.length_set, hl1]
  generalize ob1.set y.p (AObj.box [.int .i64 (-1), .asl t offt y.s ct]) = ob2 at *
  refine callM (cutE hA2 hB2 h0 hk (by omega)) ?_
  rintro r ob3 ⟨q1, d1, q2, d2, rfl, hP, hQ, hq1, hq2, hq12, hd1, hd2, hS3⟩
  have f5 := hS3.get f4 (fun h => h)
  have f6 := hS3.get f3 (fun h => h)
  have hl3 := hS3.1
  have g5 := setS (ob := ob3) (p := x.p) (by omega)
  have g6 : ∀ z, (ob3.set x.p z)[y.p]? = _ := fun z => setO (x := z) m2 f6
  simp only [U180, f5, g5, g6, seval, bA]
  have f7 := g5 (AObj.box [.int .i64 (-1), .asl q1 0 k d1])
  have hT4 : Same ob3 (ob3.set x.p (AObj.box [.int .i64 (-1), .asl q1 0 k d1])) (· = x.p) := Same.set rfl
  have hP4 := hT4.arr hP (by omega)
  have hQ4 := hT4.arr hQ (by omega)
  have hS4 : Same ob (ob3.set x.p (AObj.box [.int .i64 (-1), .asl q1 0 k d1])) (· ∈ x.fp ++ y.fp) := (hS2.trans (hS3.mono fun j h => h.elim)).trans (Same.set (by rw [hX.fp]; simp))
  have hl4 : (ob3.set x.p (AObj.box [.int .i64 (-1), .asl q1 0 k d1])).length = ob3.length := by rw [List.length_set]
  generalize ob3.set x.p (AObj.box [.int .i64 (-1), .asl q1 0 k d1]) = ob4 at *
  have f8 := setS (ob := ob4) (p := y.p) (by omega) (AObj.box [.int .i64 (-1), .asl q2 0 (x.s + y.s - k) d2])
  have f9 := setO (x := AObj.box [.int .i64 (-1), .asl q2 0 (x.s + y.s - k) d2]) (Ne.symm m2) f7
  have hT5 : Same ob4 (ob4.set y.p (AObj.box [.int .i64 (-1), .asl q2 0 (x.s + y.s - k) d2])) (· = y.p) := Same.set rfl
  have hP5 := hT5.arr hP4 (by omega)
  have hQ5 := hT5.arr hQ4 (by omega)
  rw [← XL_app, XL_take] at hP5
  rw [← XL_app, XL_drop] at hQ5
  have hsx := hX.sz
  have hsy := hY.sz
  have hnl : (x.l ++ y.l).length = x.s + y.s := by rw [List.length_append]; omega
  refine ⟨_, rfl, ⟨⟨x.p, (x.l ++ y.l).take k, k, [x.p, q1]⟩, ⟨y.p, (x.l ++ y.l).drop k, x.s + y.s - k, [y.p, q2]⟩, ?_, ?_, rfl, rfl, rfl, rfl, List.take_append_drop _ _, ?_, ?_, hS4.trans (Same.set (by rw [hY.fp]; simp))⟩⟩
  ·exact ⟨q1, 0, d1, ⟨rfl, by simp; omega, by simp only [List.length_take, hnl]; omega, ⟨-1, f9, Fr.fresh _ _ _⟩, hP5, hd1⟩⟩
  ·exact ⟨q2, 0, d2, ⟨rfl, by simp; omega, by simp only [List.length_drop, hnl], ⟨-1, f8, Fr.fresh _ _ _⟩, hQ5, hd2⟩⟩
  ·exact shift_nodup (n := ob2.length) (X := []) (Y := []) (L := []) (R := []) hnd (fun j hj => by
    rw [hl2]
    rcases List.mem_append.1 hj with hj | hj
    ·exact hltx j (by rw [hX.fp]; exact hj)
    ·exact hlty j (by rw [hY.fp]; exact hj)) rfl hq1 hq2 hq12
  ·intro j hj
   simp only [List.cons_append, List.nil_append, List.mem_cons, List.not_mem_nil, or_false] at hj
   rw [hX.fp, hY.fp]
   rcases hj with rfl | rfl | rfl | rfl
   ·exact .inl (by simp)
   ·exact .inr (by omega)
   ·exact .inl (by simp)
   ·exact .inr (by omega)
 | succ h =>
  obtain ⟨q, off, c, ksx, hX, hkx⟩ := hx
  obtain ⟨t, offt, ct, ksy, hY, hky⟩ := hy
  obtain ⟨a, hbx, whbx⟩ := hX.bx
  obtain ⟨b, hby, whby⟩ := hY.bx
  rw [hX.fp, hY.fp] at hnd
  have hnd' := four_perm.nodup_iff.1 hnd
  simp only [List.nodup_cons, List.mem_cons, List.mem_append, not_or] at hnd'
  obtain ⟨⟨m0, m1, m4, m7, m8⟩, ⟨m3, m6, m9, m10⟩, ⟨m2, m11, m12⟩, ⟨m13, m14⟩, m15⟩ := hnd'
  have hpx := (List.getElem?_eq_some_iff.1 hbx).1
  have hpy := (List.getElem?_eq_some_iff.1 hby).1
  have hqx := hX.ar.lt
  have hqy := hY.ar.lt
  have hkk : ∀ z ∈ ksx ++ ksy, Node ob h z ∧ 4 ≤ z.s ∧ z.s ≤ 8 ∧ ∀ i ∈ z.fp, i < ob.length ∧ i ≠ x.p ∧ i ≠ y.p := by
   intro z hz
   rcases List.mem_append.1 hz with hz | hz
   ·refine ⟨(hkx z hz).1, (hkx z hz).2.1, (hkx z hz).2.2, fun i hi => ?_⟩
    have hm : i ∈ ksx.flatMap (·.fp) := List.mem_flatMap.2 ⟨z, hz, hi⟩
    exact ⟨(hkx z hz).1.lt i hi, fun e => m11 (e ▸ hm), fun e => m13 (e ▸ hm)⟩
   ·refine ⟨(hky z hz).1, (hky z hz).2.1, (hky z hz).2.2, fun i hi => ?_⟩
    have hm : i ∈ ksy.flatMap (·.fp) := List.mem_flatMap.2 ⟨z, hz, hi⟩
    exact ⟨(hky z hz).1.lt i hi, fun e => m12 (e ▸ hm), fun e => m14 (e ▸ hm)⟩
  rw [nodeV_s, nodeV_s]
  refine icall_dr Tryz.func180 E180.h ?_
  simp only [U180, seval, bA]
  refine callX (mW (h + 1)) (callM (where_i (h + 1) x.p) ?_)
  rintro r ob' ⟨rfl, hob'⟩; rw [hob']; clear hob' ob'
  simp only [U180, seval, bA]
  refine callX (mW (h + 1)) (callM (where_i (h + 1) y.p) ?_)
  rintro r ob' ⟨rfl, hob'⟩; rw [hob']; clear hob' ob'
  have g1 := setS (ob := ob) (p := x.p) hpx
  have g2 : ∀ z, (ob.set x.p z)[y.p]? = _ := fun z => setO (x := z) m2 hby
  simp only [U180, hbx, g1, g2, seval, bA]
  have f1 := g1 (AObj.box [.int .i64 (-1), .asl q off x.s c])
  have f2 := g2 (AObj.box [.int .i64 (-1), .asl q off x.s c])
  have hT1 : Same ob (ob.set x.p (AObj.box [.int .i64 (-1), .asl q off x.s c])) (· = x.p) := Same.set rfl
  have hA1 := hT1.arr hX.ar m1
  have hB1 := hT1.arr hY.ar m3
  have hN1 : ∀ z ∈ ksx ++ ksy, Node (ob.set x.p (AObj.box [.int .i64 (-1), .asl q off x.s c])) h z := fun z hz => (hkk z hz).1.same hT1 (fun i hi => ((hkk z hz).2.2.2 i hi).2.1)
  have hS1 : Same ob (ob.set x.p (AObj.box [.int .i64 (-1), .asl q off x.s c])) (· ∈ x.fp ++ y.fp) := Same.set (by rw [hX.fp]; simp)
  have hl1 : (ob.set x.p (AObj.box [.int .i64 (-1), .asl q off x.s c])).length = ob.length := by rw [List.length_set]
  generalize ob.set x.p (AObj.box [.int .i64 (-1), .asl q off x.s c]) = ob1 at *
  have g3 := setS (ob := ob1) (p := y.p) (by omega)
  have g4 : ∀ z, (ob1.set y.p z)[x.p]? = _ := fun z => setO (x := z) (Ne.symm m2) f1
  simp only [U180, g3, g4, ldB1, seval, bA]
  have f3 := g3 (AObj.box [.int .i64 (-1), .asl t offt y.s ct])
  have f4 := g4 (AObj.box [.int .i64 (-1), .asl t offt y.s ct])
  have hT2 : Same ob1 (ob1.set y.p (AObj.box [.int .i64 (-1), .asl t offt y.s ct])) (· = y.p) := Same.set rfl
  have hA2 := hT2.arr hA1 m4
  have hB2 := hT2.arr hB1 m6
  have hN2 : ∀ z ∈ ksx ++ ksy, Node (ob1.set y.p (AObj.box [.int .i64 (-1), .asl t offt y.s ct])) h z := fun z hz => (hN1 z hz).same hT2 (fun i hi => ((hkk z hz).2.2.2 i hi).2.2)
  have hS2 : Same ob (ob1.set y.p (AObj.box [.int .i64 (-1), .asl t offt y.s ct])) (· ∈ x.fp ++ y.fp) := hS1.trans (Same.set (by rw [hY.fp]; simp))
  have hl2 : (ob1.set y.p (AObj.box [.int .i64 (-1), .asl t offt y.s ct])).length = ob.length := by rw [List.length_set, hl1]
  generalize ob1.set y.p (AObj.box [.int .i64 (-1), .asl t offt y.s ct]) = ob2 at *
  refine callM (cutN hA2 hB2 h0 hk (by omega)) ?_
  rintro r ob3 ⟨q1, d1, q2, d2, rfl, hP, hQ, hq1, hq2, hq12, hd1, hd2, hS3⟩
  have f5 := hS3.get f4 (fun h => h)
  have f6 := hS3.get f3 (fun h => h)
  have hl3 := hS3.1
  have g5 := setS (ob := ob3) (p := x.p) (by omega)
  have g6 : ∀ z, (ob3.set x.p z)[y.p]? = _ := fun z => setO (x := z) m2 f6
  simp only [U180, f5, g5, g6, seval, bA]
  have hN3 : ∀ z ∈ ksx ++ ksy, Node ob3 h z := fun z hz => (hN2 z hz).same hS3 (fun _ _ h => h)
  have f7 := g5 (AObj.box [.int .i64 (-1), .asl q1 0 k d1])
  have hT4 : Same ob3 (ob3.set x.p (AObj.box [.int .i64 (-1), .asl q1 0 k d1])) (· = x.p) := Same.set rfl
  have hP4 := hT4.arr hP (by omega)
  have hQ4 := hT4.arr hQ (by omega)
  have hN4 : ∀ z ∈ ksx ++ ksy, Node (ob3.set x.p (AObj.box [.int .i64 (-1), .asl q1 0 k d1])) h z := fun z hz => (hN3 z hz).same hT4 (fun i hi => ((hkk z hz).2.2.2 i hi).2.1)
  have hS4 : Same ob (ob3.set x.p (AObj.box [.int .i64 (-1), .asl q1 0 k d1])) (· ∈ x.fp ++ y.fp) := (hS2.trans (hS3.mono fun j h => h.elim)).trans (Same.set (by rw [hX.fp]; simp))
  have hl4 : (ob3.set x.p (AObj.box [.int .i64 (-1), .asl q1 0 k d1])).length = ob3.length := by rw [List.length_set]
  generalize ob3.set x.p (AObj.box [.int .i64 (-1), .asl q1 0 k d1]) = ob4 at *
  have f8 := setS (ob := ob4) (p := y.p) (by omega) (AObj.box [.int .i64 (-1), .asl q2 0 (x.s + y.s - k) d2])
  have f9 := setO (x := AObj.box [.int .i64 (-1), .asl q2 0 (x.s + y.s - k) d2]) (Ne.symm m2) f7
  have hT5 : Same ob4 (ob4.set y.p (AObj.box [.int .i64 (-1), .asl q2 0 (x.s + y.s - k) d2])) (· = y.p) := Same.set rfl
  have hP5 := hT5.arr hP4 (by omega)
  have hQ5 := hT5.arr hQ4 (by omega)
  have hN5 : ∀ z ∈ ksx ++ ksy, Node (ob4.set y.p (AObj.box [.int .i64 (-1), .asl q2 0 (x.s + y.s - k) d2])) h z ∧ 4 ≤ z.s ∧ z.s ≤ 8 := fun z hz => ⟨(hN4 z hz).same hT5 (fun i hi => ((hkk z hz).2.2.2 i hi).2.2), (hkk z hz).2.1, (hkk z hz).2.2.1⟩
  rw [← List.map_append, Nat.mul_one, ← List.map_take] at hP5
  rw [← List.map_append, Nat.mul_one, ← List.map_drop] at hQ5
  have hsx := hX.sz
  have hsy := hY.sz
  have hnl : (ksx ++ ksy).length = x.s + y.s := by rw [List.length_append]; omega
  have hL : ((ksx ++ ksy).take k).length = k := by rw [List.length_take, hnl]; omega
  have hR : ((ksx ++ ksy).drop k).length = x.s + y.s - k := by rw [List.length_drop, hnl]
  have hfe : ((ksx ++ ksy).take k).flatMap (·.fp) ++ ((ksx ++ ksy).drop k).flatMap (·.fp) = ksx.flatMap (·.fp) ++ ksy.flatMap (·.fp) := by rw [← List.flatMap_append, List.take_append_drop, List.flatMap_append]
  have hndT : ((x.p :: q1 :: ((ksx ++ ksy).take k).flatMap (·.fp)) ++ (y.p :: q2 :: ((ksx ++ ksy).drop k).flatMap (·.fp))).Nodup :=
   shift_nodup (n := ob2.length) hnd (fun j hj => by
    rw [hl2]
    rcases List.mem_append.1 hj with hj | hj
    ·exact hltx j (by rw [hX.fp]; exact hj)
    ·exact hlty j (by rw [hY.fp]; exact hj)) hfe hq1 hq2 hq12
  have hnd3 := List.nodup_append.1 hndT
  refine ⟨_, rfl, ⟨⟨x.p, ((ksx ++ ksy).take k).flatMap (·.l), ((ksx ++ ksy).take k).length, x.p :: q1 :: ((ksx ++ ksy).take k).flatMap (·.fp)⟩, ⟨y.p, ((ksx ++ ksy).drop k).flatMap (·.l), ((ksx ++ ksy).drop k).length, y.p :: q2 :: ((ksx ++ ksy).drop k).flatMap (·.fp)⟩,
   mkInner (off := 0) (c := d1) ⟨-1, by rw [hL]; exact f9, Fr.fresh _ _ _⟩ (by rw [hL]; exact hP5) hd1 hnd3.1 (fun z hz => hN5 z (List.mem_of_mem_take hz)), mkInner (off := 0) (c := d2) ⟨-1, by rw [hR]; exact f8, Fr.fresh _ _ _⟩ (by rw [hR]; exact hQ5) hd2 hnd3.2.1 (fun z hz => hN5 z (List.mem_of_mem_drop hz)), rfl, rfl, hL, hR, ?_, hndT, ?_, hS4.trans (Same.set (by rw [hY.fp]; simp))⟩⟩
  ·simp only []
   rw [← List.flatMap_append, List.take_append_drop, List.flatMap_append, hX.fl, hY.fl]
  ·intro j hj
   have hj' : j ∈ q1 :: q2 :: x.p :: y.p :: (ksx.flatMap (·.fp) ++ ksy.flatMap (·.fp)) := by rw [← hfe]; exact four_perm.mem_iff.1 hj
   rw [hX.fp, hY.fp]
   simp only [List.mem_cons, List.mem_append] at hj' ⊢
   rcases hj' with rfl | rfl | rfl | rfl | h | h
   ·exact .inr (by omega)
   ·exact .inr (by omega)
   ·exact .inl (.inl (.inl rfl))
   ·exact .inl (.inr (.inl rfl))
   ·exact .inl (.inl (.inr (.inr h)))
   ·exact .inl (.inr (.inr (.inr h)))
open Go.RowKit Ar
theorem Node.none [Fr] {ob : List AObj} {h : Nat} {k : Kd} (hN : Node ob h k) (hs : k.s = 0) : k.l = [] := by
 cases h with
 | zero =>
  obtain ⟨q, off, c, h⟩ := hN
  exact List.eq_nil_of_length_eq_zero (by have := h.sz; omega)
 | succ h =>
  obtain ⟨q, off, c, ks, hI, _⟩ := hN
  have : ks = [] := List.eq_nil_of_length_eq_zero (by have := hI.sz; omega)
  rw [hI.fl, this]; rfl
theorem shift_par [Fr] {ob ob' : List AObj} {h : Nat} {k : Kd} {q off c m : Nat} {A B : List Kd} {x y : Kd} (hI : InnerAt ob h k q off c (A ++ x :: y :: B)) (hk : ∀ z ∈ A ++ x :: y :: B, Node ob h z) (hR : ShiftR ob h x y m ob') :
  ∃ x' y', Node ob' h x' ∧ Node ob' h y' ∧ x'.s = m ∧ y'.s = x.s + y.s - m ∧ x'.l ++ y'.l = x.l ++ y.l ∧ (∀ z, z ∈ A ∨ z ∈ B → Node ob' h z) ∧
   InnerAt ob' h ⟨k.p, k.l, k.s, k.p :: q :: (A ++ x' :: y' :: B).flatMap (·.fp)⟩ q off c (A ++ x' :: y' :: B) ∧ Sub ob k.fp (k.p :: q :: (A ++ x' :: y' :: B).flatMap (·.fp)) ∧ Same ob ob' (· ∈ k.fp) ∧ ∀ a, ob[k.p]? = some a → ob'[k.p]? = some a := by
 obtain ⟨x', y', hx', hy', hpx, hpy, hsx, hsy, hl, hnd, hsub, hS⟩ := hR.ex
 have hfp : k.fp = k.p :: q :: (A.flatMap (·.fp) ++ ((x.fp ++ y.fp) ++ B.flatMap (·.fp))) := by rw [hI.fp, List.flatMap_append, List.flatMap_cons, List.flatMap_cons, List.append_assoc]
 have hfp' : k.p :: q :: (A ++ x' :: y' :: B).flatMap (·.fp) = k.p :: q :: (A.flatMap (·.fp) ++ ((x'.fp ++ y'.fp) ++ B.flatMap (·.fp))) := by rw [List.flatMap_append, List.flatMap_cons, List.flatMap_cons, List.append_assoc]
 have hnd0 : ((k.p :: q :: A.flatMap (·.fp)) ++ ((x.fp ++ y.fp) ++ B.flatMap (·.fp))).Nodup := by have := hI.nd; rw [hfp] at this; exact this
 obtain ⟨a, hbx, whbx⟩ := hI.bx
 have hlt0 : ∀ i ∈ (k.p :: q :: A.flatMap (·.fp)) ++ ((x.fp ++ y.fp) ++ B.flatMap (·.fp)), i < ob.length := by
  intro i hi
  rcases List.mem_append.1 hi with hi | hi
  ·rcases List.mem_cons.1 hi with rfl | hi
   ·exact (List.getElem?_eq_some_iff.1 hbx).1
   ·rcases List.mem_cons.1 hi with rfl | hi
    ·exact hI.ar.lt
    ·obtain ⟨z, hz, hi⟩ := List.mem_flatMap.1 hi
     exact (hk z (by simp [hz])).lt i hi
  ·rcases List.mem_append.1 hi with hi | hi
   ·rcases List.mem_append.1 hi with hi | hi
    ·exact (hk x (by simp)).lt i hi
    ·exact (hk y (by simp)).lt i hi
   ·obtain ⟨z, hz, hi⟩ := List.mem_flatMap.1 hi
    exact (hk z (by simp [hz])).lt i hi
 have hnd1 := nodup_swap hnd0 hlt0 hnd hsub
 have hd := List.nodup_append.1 hnd0
 have hd2 := List.nodup_append.1 hd.2.1
 have hpn : k.p ∉ x.fp ++ y.fp := fun hm => hd.2.2 k.p (by simp) k.p (List.mem_append_left _ hm) rfl
 have hqn : q ∉ x.fp ++ y.fp := fun hm => hd.2.2 q (by simp) q (List.mem_append_left _ hm) rfl
 refine ⟨x', y', hx', hy', hsx, hsy, hl, fun z hz => ?_, ⟨rfl, by rw [hfp']; exact hnd1, ?_, ?_, ⟨a, hS.get hbx hpn, whbx⟩, ?_, hI.cb⟩, ?_, hS.mono fun j hj => ?_, fun a ha => hS.get ha hpn⟩
 ·rcases hz with hz | hz
  ·exact (hk z (by simp [hz])).same hS fun i hi hm => hd.2.2 i (List.mem_cons_of_mem _ (List.mem_cons_of_mem _ (List.mem_flatMap.2 ⟨z, hz, hi⟩))) i (List.mem_append_left _ hm) rfl
  ·exact (hk z (by simp [hz])).same hS fun i hi hm => hd2.2.2 i hm i (List.mem_flatMap.2 ⟨z, hz, hi⟩) rfl
 ·have := hI.sz
  simp only [List.length_append, List.length_cons] at this ⊢
  exact this
 ·simp only []
  rw [hI.fl, List.flatMap_append, List.flatMap_cons, List.flatMap_cons, List.flatMap_append, List.flatMap_cons, List.flatMap_cons, ← List.append_assoc x.l, ← hl, List.append_assoc]
 ·have := hS.arr hI.ar hqn
  have e : (A ++ x' :: y' :: B).map (nodeV h) = (A ++ x :: y :: B).map (nodeV h) := by
   simp only [List.map_append, List.map_cons, nodeV, hpx, hpy]
  rw [e]; exact this
 ·intro j hj
  rw [hfp'] at hj
  rw [hfp]
  simp only [List.mem_cons, List.mem_append] at hj ⊢
  rcases hj with h | h | h | (h | h) | h
  ·exact .inl (.inl h)
  ·exact .inl (.inr (.inl h))
  ·exact .inl (.inr (.inr (.inl h)))
  ·rcases hsub j (by simp [h]) with h | h
   ·exact .inl (.inr (.inr (.inr (.inl (List.mem_append.1 h)))))
   ·exact .inr h
  ·rcases hsub j (by simp [h]) with h | h
   ·exact .inl (.inr (.inr (.inr (.inl (List.mem_append.1 h)))))
   ·exact .inr h
  ·exact .inl (.inr (.inr (.inr (.inr h))))
 ·rw [hfp]
  simp only [List.mem_cons, List.mem_append]
  exact .inr (.inr (.inr (.inl (List.mem_append.1 hj))))
structure MendR [Fr] (ob : List AObj) (h : Nat) (k : Kd) (ob' : List AObj) : Prop where
 ex : ∃ k', Node ob' (h + 1) k' ∧ k'.p = k.p ∧ k'.l = k.l ∧ k.s ≤ k'.s + 1 ∧ k'.s ≤ k.s ∧ Sub ob k.fp k'.fp ∧ Same ob ob' (· ∈ k.fp)
theorem merge_i [Fr] {ob : List AObj} {h : Nat} {k : Kd} {q off c : Nat} {A B : List Kd} {x y : Kd} (hI : InnerAt ob h k q off c (A ++ x :: y :: B)) (hk : ∀ z ∈ A ++ x :: y :: B, Node ob h z) (ho : ∀ z, z ∈ A ∨ z ∈ B → 4 ≤ z.s ∧ z.s ≤ 8) (h4 : 4 ≤ x.s + y.s) (h8 : x.s + y.s ≤ 8) (hks : k.s ≤ 1000) (hfr : ob[k.p]? = some (.box [.int .i64 (-1), .asl q off k.s c])) :
  ICall Tryz.prog 181 [.ref k.p 0, .int .i64 (A.length : Int)] ob fun _ ob' => MendR ob h k ob' := by
 obtain ⟨a, ha⟩ : ∃ a : Int, a = -1 := ⟨_, rfl⟩
 have hb : ob[k.p]? = some (.box [.int .i64 a, .asl q off k.s c]) := by rw [ha]; exact hfr
 have hsz := hI.sz
 have hA := hI.ar
 have hnum : k.s = A.length + (B.length + 1 + 1) := by rw [hsz, List.length_append, List.length_cons, List.length_cons]
 have hx := hk x (by simp)
 have hy := hk y (by simp)
 refine icall_dr Tryz.func181 E181.h ?_
 have d1 : decide (A.length < k.s) = true := decide_eq_true (by omega)
 have d2 : decide (A.length + 1 < k.s) = true := decide_eq_true (by omega)
 have w1 : IntKind.i64.wrap ((A.length : Int) + 1) = ((A.length + 1 : Nat) : Int) := by rw [wrapI (by omega) (by omega)]; omega
 have w2 : IntKind.i64.wrap ((A.length : Int) + 2) = ((A.length + 1 + 1 : Nat) : Int) := by rw [wrapI (by omega) (by omega)]; omega
 have w3 : IntKind.i64.wrap ((x.s : Int) + (y.s : Int)) = ((x.s + y.s : Nat) : Int) := by rw [wrapI (by omega) (by omega)]; omega
 have hlx := ldK hA (i := A.length) (x := nodeV h x) (by simp)
 have hly := ldK hA (i := A.length + 1) (x := nodeV h y) (by rw [List.getElem?_map, List.getElem?_append_right (by omega), Nat.add_sub_cancel_left]; rfl)
 simp only [U181, hb, ldB1, d1, d2, w1, hlx, hly, nodeV, seval, bA]
 refine callJ (mZ h) (size_r h hx) ?_
 try simp only [U181, hb, ldB1, d1, d2, w1, hlx, hly, nodeV, seval, bA]
 refine callJ (mZ h) (size_r h hy) ?_
 try simp only [U181, hb, ldB1, d1, d2, w1, w3, hlx, hly, nodeV, seval, bA]
 have hndp : (x.fp ++ y.fp).Nodup := by
  have := hI.nd
  rw [hI.fp, List.flatMap_append, List.flatMap_cons, List.flatMap_cons, ← List.append_assoc x.fp] at this
  exact (List.nodup_append.1 (List.nodup_append.1 (List.nodup_cons.1 (List.nodup_cons.1 this).2).2).2.1).1
 refine callM (shift_i hx hy hndp (by omega) (Nat.le_refl _) (by omega)) ?_
 intro r ob1 hR
 obtain ⟨x', y', hx', hy', hsx, hsy, hl, hoth, hI1, hsub, hS, hbk⟩ := shift_par hI hk hR
 have hb1 := hbk _ hb
 have hA1 := hI1.ar
 simp only [] at hA1
 have hy0 := hy'.none (by omega)
 simp only [U181, hb1, ldB1, w1, w2, seval, bA]
 refine callM (delN (i := A.length + 1) hA1 (by omega) (by omega)) ?_
 rintro r ob2 ⟨rfl, hA2, hS2⟩
 have hnd1 := hI1.nd
 have hfp1 := hI1.fp
 simp only [] at hnd1
 rw [List.flatMap_append, List.flatMap_cons, List.flatMap_cons] at hnd1
 have hd := List.nodup_cons.1 hnd1
 have hd2 := List.nodup_cons.1 hd.2
 have hpq : k.p ≠ q := fun e => hd.1 (by simp [e])
 have hb2 := hS2.get hb1 hpq
 have hp2 := (List.getElem?_eq_some_iff.1 hb2).1
 simp only [U181, hb2, seval, bA]
 have hT : Same ob2 (ob2.set k.p (AObj.box [.int .i64 a, .asl q off (k.s - 1) c])) (· = k.p) := Same.set rfl
 have hA3 := hT.arr hA2 (Ne.symm hpq)
 have hmap : ((A ++ x' :: y' :: B).map (nodeV h)).take (A.length + 1) ++ ((A ++ x' :: y' :: B).map (nodeV h)).drop (A.length + 1 + 1) = (A ++ x' :: B).map (nodeV h) := by
  have e1 : (A.map (nodeV h)).length = A.length := List.length_map _
  simp only [List.map_append, List.map_cons]
  rw [List.take_append, List.drop_append, e1, List.take_of_length_le (by omega), List.drop_eq_nil_of_le (by omega), show A.length + 1 - A.length = 1 by omega, show A.length + 1 + 1 - A.length = 2 by omega]
  simp
 rw [hmap] at hA3
 have hln : (A ++ x' :: B).length = k.s - 1 := by rw [List.length_append, List.length_cons]; omega
 have hfl : (A ++ x' :: B).flatMap (·.l) = k.l := by
  have := hI1.fl
  simp only [List.flatMap_append, List.flatMap_cons, hy0, List.nil_append] at this ⊢
  exact this.symm
 have hndf : (k.p :: q :: (A ++ x' :: B).flatMap (·.fp)).Nodup := by
  rw [List.flatMap_append, List.flatMap_cons]
  refine List.Sublist.nodup ?_ hnd1
  refine List.Sublist.cons_cons _ (List.Sublist.cons_cons _ (List.Sublist.append (List.Sublist.refl _) (List.Sublist.append (List.Sublist.refl _) (List.sublist_append_right _ _))))
 have hmemz : ∀ z ∈ A ++ x' :: B, ∀ i ∈ z.fp, i ≠ k.p ∧ i ≠ q := by
  intro z hz i hi
  have hm : i ∈ (A ++ x' :: B).flatMap (·.fp) := List.mem_flatMap.2 ⟨z, hz, hi⟩
  have h1 := List.nodup_cons.1 hndf
  have h2 := List.nodup_cons.1 h1.2
  exact ⟨fun e => h1.1 (by simp only [List.mem_cons]; exact .inr (e ▸ hm)), fun e => h2.1 (e ▸ hm)⟩
 refine ⟨_, rfl, ⟨⟨k.p, (A ++ x' :: B).flatMap (·.l), (A ++ x' :: B).length, k.p :: q :: (A ++ x' :: B).flatMap (·.fp)⟩, mkInner (off := off) (c := c) ⟨a, by rw [hln]; exact setS hp2 _, by rw [ha]; exact Fr.fresh _ _ _⟩ (by rw [hln]; exact hA3) hI.cb hndf ?_, rfl, hfl, by simp only [hln]; omega, by simp only [hln]; omega, ?_, ?_⟩⟩
 ·intro z hz
  have hN : Node ob1 h z ∧ 4 ≤ z.s ∧ z.s ≤ 8 := by
   rcases List.mem_append.1 hz with hz | hz
   ·exact ⟨hoth z (.inl hz), ho z (.inl hz)⟩
   ·rcases List.mem_cons.1 hz with rfl | hz
    ·exact ⟨hx', by omega, by omega⟩
    ·exact ⟨hoth z (.inr hz), ho z (.inr hz)⟩
  exact ⟨(hN.1.same hS2 (fun i hi => (hmemz z hz i hi).2)).same hT (fun i hi => (hmemz z hz i hi).1), hN.2⟩
 ·intro j hj
  refine hsub j ?_
  simp only [List.mem_cons, List.mem_append, List.flatMap_append, List.flatMap_cons] at hj ⊢
  rcases hj with h | h | h | h | h
  ·exact .inl h
  ·exact .inr (.inl h)
  ·exact .inr (.inr (.inl h))
  ·exact .inr (.inr (.inr (.inl h)))
  ·exact .inr (.inr (.inr (.inr (.inr h))))
 ·refine (hS.trans (hS2.mono fun j (hj : j = q) => ?_)).trans (hT.mono fun j (hj : j = k.p) => ?_)
  ·rw [hj, hI.fp]; simp
  ·rw [hj, hI.fp]; simp
theorem mend_shift [Fr] {ob ob' : List AObj} {h : Nat} {k : Kd} {q off c m : Nat} {A B : List Kd} {x y : Kd} (hI : InnerAt ob h k q off c (A ++ x :: y :: B)) (hk : ∀ z ∈ A ++ x :: y :: B, Node ob h z) (ho : ∀ z, z ∈ A ∨ z ∈ B → 4 ≤ z.s ∧ z.s ≤ 8) (hR : ShiftR ob h x y m ob') (h1 : 4 ≤ m) (h2 : m ≤ 8) (h3 : 4 ≤ x.s + y.s - m) (h4 : x.s + y.s - m ≤ 8) : MendR ob h k ob' := by
 obtain ⟨x', y', hx', hy', hsx, hsy, hl, hoth, hI1, hsub, hS, hbk⟩ := shift_par hI hk hR
 refine ⟨⟨_, ⟨q, off, c, _, hI1, fun z hz => ?_⟩, rfl, rfl, by simp, by simp, hsub, hS⟩⟩
 rcases List.mem_append.1 hz with hz | hz
 ·exact ⟨hoth z (.inl hz), ho z (.inl hz)⟩
 ·rcases List.mem_cons.1 hz with rfl | hz
  ·exact ⟨hx', by omega, by omega⟩
  ·rcases List.mem_cons.1 hz with rfl | hz
   ·exact ⟨hy', by omega, by omega⟩
   ·exact ⟨hoth z (.inr hz), ho z (.inr hz)⟩
theorem snoc_or {α : Type} (l : List α) : l = [] ∨ ∃ l' a, l = l' ++ [a] := by
 rcases List.eq_nil_or_concat l with h | ⟨l', a, h⟩
 ·exact .inl h
 ·exact .inr ⟨l', a, by simpa using h⟩
theorem pair_nodup [Fr] {ob : List AObj} {h : Nat} {k : Kd} {q off c : Nat} {A B : List Kd} {x y : Kd} (hI : InnerAt ob h k q off c (A ++ x :: y :: B)) : (x.fp ++ y.fp).Nodup := by
 have := hI.nd
 rw [hI.fp, List.flatMap_append, List.flatMap_cons, List.flatMap_cons, ← List.append_assoc x.fp] at this
 exact (List.nodup_append.1 (List.nodup_append.1 (List.nodup_cons.1 (List.nodup_cons.1 this).2).2).2.1).1
theorem mend_i [Fr] {ob : List AObj} {h : Nat} {k : Kd} {q off c i : Nat} {A B : List Kd} {x : Kd} (hI : InnerAt ob h k q off c (A ++ x :: B)) (hi : A.length = i) (hk : ∀ z ∈ A ++ x :: B, Node ob h z) (ho : ∀ z, z ∈ A ∨ z ∈ B → 4 ≤ z.s ∧ z.s ≤ 8) (h3 : x.s = 3) (h2 : 2 ≤ k.s) (h8 : k.s ≤ 8) (hfr : ob[k.p]? = some (.box [.int .i64 (-1), .asl q off k.s c])) :
  ICall Tryz.prog 161 [.ref k.p 0, .int .i64 (i : Int)] ob fun _ ob' => MendR ob h k ob' := by
 obtain ⟨a, hb, whb⟩ := hI.bx
 have hsz := hI.sz
 have hA := hI.ar
 have hnum : k.s = A.length + (B.length + 1) := by rw [hsz, List.length_append, List.length_cons]
 have hx := hk x (by simp)
 have w0 : IntKind.i64.wrap ((k.s : Int) - 1) = ((k.s - 1 : Nat) : Int) := by rw [wrapI (by omega) (by omega)]; omega
 have w1 : IntKind.i64.wrap ((i : Int) + 1) = ((i + 1 : Nat) : Int) := by rw [wrapI (by omega) (by omega)]; omega
 have hlx := ldK hA (i := i) (x := nodeV h x) (by rw [← hi]; simp)
 have d1 : decide (i < k.s) = true := decide_eq_true (by omega)
 have w4 : IntKind.i64.wrap ((x.s : Int) + 1) = ((4 : Nat) : Int) := by rw [wrapI (by omega) (by omega)]; omega
 refine icall_dr Tryz.func161 E161.h ?_
 rcases snoc_or A with rfl | ⟨A', w, rfl⟩
 ·have hi0 : i = 0 := hi.symm
  have dz : decide ((0 : Int) < (i : Int)) = false := decide_eq_false (by omega)
  match B, hI, hk, ho, hnum, hA, hlx with
  | [], hI, hk, ho, hnum, hA, hlx => simp at hnum; omega
  | v :: B', hI, hk, ho, hnum, hA, hlx =>
   have hv := hk v (by simp)
   have hvs := ho v (.inr (by simp))
   have dl : decide ((i : Int) < ((k.s - 1 : Nat) : Int)) = true := decide_eq_true (by omega)
   have d2 : decide (i + 1 < k.s) = true := decide_eq_true (by omega)
   have hlv := ldK hA (i := i + 1) (x := nodeV h v) (by rw [hi0]; simp)
   simp only [U161, hb, ldB1, w0, w1, dz, dl, d1, d2, hlx, hlv, nodeV, seval, bA]
   refine callJ (mZ h) (size_r h hv) ?_
   by_cases h5 : 4 < v.s
   ·have d5 : decide ((4 : Int) < (v.s : Int)) = true := decide_eq_true (by omega)
    try simp only [U161, hb, ldB1, w0, w1, w4, dz, dl, d1, d2, hlx, hlv, nodeV, d5, seval, bA]
    refine callJ (mZ h) (size_r h hx) ?_
    try simp only [U161, hb, ldB1, w0, w1, w4, dz, dl, d1, d2, hlx, hlv, nodeV, d5, seval, bA]
    refine callM (shift_i (k := 4) hx hv (pair_nodup hI) (by omega) (by omega) (by omega)) ?_
    intro r ob1 hR
    try simp only [U161, seval, bA]
    exact ⟨_, rfl, mend_shift hI hk (fun z hz => ho z (hz.elim .inl fun hz => .inr (by simp [hz]))) hR (by omega) (by omega) (by omega) (by omega)⟩
   ·have d5 : decide ((4 : Int) < (v.s : Int)) = false := decide_eq_false (by omega)
    try simp only [U161, hb, ldB1, w0, w1, dz, dl, d1, d2, hlx, hlv, nodeV, d5, seval, bA]
    have hm := merge_i hI hk (fun z hz => ho z (hz.elim .inl fun hz => .inr (by simp [hz]))) (by omega) (by omega) (by omega) hfr
    rw [hi] at hm
    refine callM hm ?_
    intro r ob1 hR
    try simp only [U161, seval, bA]
    exact ⟨_, rfl, hR⟩
 ·have hi1 : A'.length + 1 = i := by simpa using hi
  have dz : decide ((0 : Int) < (i : Int)) = true := decide_eq_true (by omega)
  have wm : IntKind.i64.wrap ((i : Int) - 1) = (A'.length : Int) := by rw [wrapI (by omega) (by omega)]; omega
  have hw := hk w (by simp)
  have hws := ho w (.inl (by simp))
  have hI' : InnerAt ob h k q off c (A' ++ w :: x :: B) := by simpa using hI
  have hk' : ∀ z ∈ A' ++ w :: x :: B, Node ob h z := fun z hz => hk z (by simpa using hz)
  have dw : decide (A'.length < k.s) = true := decide_eq_true (by omega)
  have hlw := ldK hA (i := A'.length) (x := nodeV h w) (by simp)
  have ho' : ∀ z, z ∈ A' ∨ z ∈ B → 4 ≤ z.s ∧ z.s ≤ 8 := fun z hz => ho z (hz.elim (fun hz => .inl (by simp [hz])) .inr)
  simp only [U161, hb, ldB1, w0, wm, dz, d1, dw, hlx, hlw, nodeV, seval, bA]
  refine callJ (mZ h) (size_r h hw) ?_
  by_cases h5 : 4 < w.s
  ·have d5 : decide ((4 : Int) < (w.s : Int)) = true := decide_eq_true (by omega)
   have w5 : IntKind.i64.wrap ((w.s : Int) - 1) = ((w.s - 1 : Nat) : Int) := by rw [wrapI (by omega) (by omega)]; omega
   try simp only [U161, hb, ldB1, w0, wm, dz, d1, dw, hlx, hlw, nodeV, d5, seval, bA]
   refine callJ (mZ h) (size_r h hw) ?_
   try simp only [U161, hb, ldB1, w0, wm, w5, dz, d1, dw, hlx, hlw, nodeV, d5, seval, bA]
   refine callM (shift_i (k := w.s - 1) hw hx (pair_nodup hI') (by omega) (by omega) (by omega)) ?_
   intro r ob1 hR
   try simp only [U161, seval, bA]
   exact ⟨_, rfl, mend_shift hI' hk' ho' hR (by omega) (by omega) (by omega) (by omega)⟩
  ·have d5 : decide ((4 : Int) < (w.s : Int)) = false := decide_eq_false (by omega)
   have hm := merge_i hI' hk' ho' (by omega) (by omega) (by omega) hfr
   match B, hI, hk, ho, hnum, hA, hlx, hm with
   | [], hI, hk, ho, hnum, hA, hlx, hm =>
    have dl : decide ((i : Int) < ((k.s - 1 : Nat) : Int)) = false := decide_eq_false (by simp at hnum; omega)
    try simp only [U161, hb, ldB1, w0, wm, dz, dl, d1, dw, hlx, hlw, nodeV, d5, seval, bA]
    refine callM hm ?_
    intro r ob1 hR
    try simp only [U161, seval, bA]
    exact ⟨_, rfl, hR⟩
   | v :: B', hI, hk, ho, hnum, hA, hlx, hm =>
    have hv := hk v (by simp)
    have hvs := ho v (.inr (by simp))
    have hnum' : k.s = (A'.length + 1) + ((B'.length + 1) + 1) := by simpa using hnum
    have dl : decide ((i : Int) < ((k.s - 1 : Nat) : Int)) = true := decide_eq_true (by omega)
    have d2 : decide (i + 1 < k.s) = true := decide_eq_true (by omega)
    have hlv := ldK hA (i := i + 1) (x := nodeV h v) (by rw [List.getElem?_map, List.getElem?_append_right (by simp; omega)]; simp [← hi1])
    try simp only [U161, hb, ldB1, w0, w1, wm, dz, dl, d1, d2, dw, hlx, hlw, hlv, nodeV, d5, seval, bA]
    refine callJ (mZ h) (size_r h hv) ?_
    by_cases h6 : 4 < v.s
    ·have d6 : decide ((4 : Int) < (v.s : Int)) = true := decide_eq_true (by omega)
     try simp only [U161, hb, ldB1, w0, w1, wm, w4, dz, dl, d1, d2, dw, hlx, hlw, hlv, nodeV, d5, d6, seval, bA]
     refine callJ (mZ h) (size_r h hx) ?_
     try simp only [U161, hb, ldB1, w0, w1, wm, w4, dz, dl, d1, d2, dw, hlx, hlw, hlv, nodeV, d5, d6, seval, bA]
     refine callM (shift_i (k := 4) hx hv (pair_nodup hI) (by omega) (by omega) (by omega)) ?_
     intro r ob1 hR
     try simp only [U161, seval, bA]
     exact ⟨_, rfl, mend_shift hI hk (fun z hz => ho z (hz.elim .inl fun hz => .inr (by simp [hz]))) hR (by omega) (by omega) (by omega) (by omega)⟩
    ·have d6 : decide ((4 : Int) < (v.s : Int)) = false := decide_eq_false (by omega)
     try simp only [U161, hb, ldB1, w0, w1, wm, dz, dl, d1, d2, dw, hlx, hlw, hlv, nodeV, d5, d6, seval, bA]
     refine callM hm ?_
     intro r ob1 hR
     try simp only [U161, seval, bA]
     exact ⟨_, rfl, hR⟩
open Go.RowKit
end Go.Proofs.YtdgpiobmncohjaaGreatDoor.Aw
