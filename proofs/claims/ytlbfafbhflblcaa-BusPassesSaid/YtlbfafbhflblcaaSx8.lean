/-
  A call upon an element of a list whose elements have heaps of their own. Conditions: none.
-/
import Derived.Test.YtlbfafbhflblcaaSx7
namespace Go.Sx
open Go
set_option linter.unusedVariables false
set_option linter.unusedSimpArgs false
section
variable {P : Program} {call : ZS} {a : Act} {w w0 : World} {S : List Nat} {σ : Nat → EV} {ρ : RM} {h : List Row} {n : Nat}
theorem ZhC {h : List Row} {z : Nat} {x : EV} {r i : Nat} {els : List (List (Bool × EV))} {m : List (Bool × EV)} (hx : ZbV h z x = some (r, els, i, m)) :
    ∃ row, h[r]? = some row ∧ row.c = .tree z els ∧ els[i]? = some m ∧ ((z = 0 ∧ x = .tp r i) ∨ (z ≠ 0 ∧ x = .ptr r (i * z))) := by
  unfold ZbV at hx
  split at hx
  · split at hx
    · rename_i row hrow
      split at hx
      · rename_i z' els' hc
        split at hx
        · rename_i hz
          simp only [Option.map_eq_some_iff, Prod.mk.injEq] at hx
          obtain ⟨m', hm, rfl, rfl, rfl, rfl⟩ := hx
          exact ⟨row, hrow, by rw [hc, hz.1, hz.2], hm, .inl ⟨hz.1, rfl⟩⟩
        · cases hx
      · cases hx
    · cases hx
  · rename_i r' o
    split at hx
    · rename_i row hrow
      split at hx
      · rename_i z' els' hc
        split at hx
        · rename_i hz
          simp only [Option.map_eq_some_iff, Prod.mk.injEq] at hx
          obtain ⟨m', hm, rfl, rfl, rfl, rfl⟩ := hx
          refine ⟨row, hrow, by rw [hc, hz.2.1], hm, .inr ⟨by omega, ?_⟩⟩
          rw [Nat.div_mul_cancel (Nat.dvd_of_mod_eq_zero hz.2.2)]
        · cases hx
      · cases hx
    · cases hx
  · cases hx
theorem ZfZ {h : List Row} {m : List (Bool × EV)} (hm : ZdX h = some m) : ∃ ids : List Nat, ids.Nodup ∧ (∃ r, ids = 0 :: r) ∧ (∀ i ∈ ids, i < h.length ∧ noF (Zo h i).c = true) ∧ m = Zac h ids := by
  unfold ZdX at hm
  split at hm
  · rename_i r hr
    split at hm
    · rename_i hall
      simp only [Option.some.injEq] at hm
      refine ⟨0 :: r, by rw [← hr]; exact Zay h _ _ _ List.nodup_nil, ⟨r, rfl⟩, fun i hi => ?_, hm.symm⟩
      have := List.all_eq_true.1 hall i hi
      simpa using this
    · cases hm
  · cases hm
theorem Zny (h : List Row) (ids : List Nat) : mh (Zac h ids) = ids.map fun i => Zr (ZT ids) (Zo h i) := by
  simp [mh, Zac, Function.comp_def]
theorem HR.sub {w0 w : World} {S : List Nat} {ρ : RM} {h : List Row} (hh : HR w0 S ρ h w) {ids : List Nat} (hnd : ids.Nodup) (hn : ∀ i ∈ ids, noF (Zo h i).c = true) :
    HR w0 S ⟨fun j => if j < ids.length then ρ (ids.getD j 0) else none, fun _ => none, fun _ => False⟩ (mh (Zac h ids)) w := by
  rw [Zny]
  have := hh.reindexN (h2 := ids.map fun i => Zr (ZT ids) (Zo h i)) (src := fun j => ids.getD j 0) (to := ZT ids)
    (fun j hj => by
      simp only [List.length_map] at hj
      simp [List.getD_eq_getElem?_getD, List.getElem?_eq_getElem hj])
    (fun j hj => by
      simp only [List.length_map] at hj
      exact hn _ (ZO hnd hj).2.2)
    (fun i j hij => by
      unfold ZT at hij
      split at hij
      · rename_i hi
        simp only [Option.some.injEq] at hij
        subst hij
        obtain ⟨p, q⟩ := Zaw (l := ids) (by simpa using hi)
        exact ⟨by simpa using p, q⟩
      · simp at hij)
    (fun j k hj hk hjk => by
      simp only [List.length_map] at hj hk
      have e1 := (ZO hnd hj).1
      have e2 := (ZO hnd hk).1
      rw [← e1, ← e2, hjk])
  simpa only [List.length_map] using this
theorem Zf0 {o : Oper} {f : FuncId} {z : Nat} {x : EV} {as : List EV} {u : Value} {us : List Value} (hrun : (execOp a.eval o).run P w = .ok (.enter f (u :: us).toArray) w) (hu : VR ρ x u) (hus : VRs ρ as us) (hT : HRT w0 S ρ h w) (hcall : ZaK P call)
    {r i : Nat} {els : List (List (Bool × EV))} {m : List (Bool × EV)} (hx : ZbV h z x = some (r, els, i, m)) {y : EV × List (Bool × EV)} (hy : ZbA call f z m as = some y) :
    ZgK P o a w0 S ρ h w { v := y.1, upd := [(r, ⟨false, .tree z (els.set i y.2)⟩)] } := by
  obtain ⟨hh, μ, tg, ht⟩ := hT
  obtain ⟨row, hrow, hrc, hm, hax⟩ := ZhC hx
  have hrow2 : row = ⟨false, .tree z els⟩ := by
    have := ht.ro r row hrow (by rw [hrc]; rfl)
    obtain ⟨q, c⟩ := row
    simp only at this hrc
    rw [this, hrc]
  subst hrow2
  have hil : i < els.length := (List.getElem?_eq_some_iff.1 hm).1
  have hrl : r < h.length := (List.getElem?_eq_some_iff.1 hrow).1
  obtain ⟨L, hL, hLb, htg, ⟨lc, lt, hlw, hlr, hlz⟩, hlink, hfrs⟩ := ht.list r z els hrow
  have hfr := hfrs i m hm
  unfold ZbA at hy
  split at hy
  · rename_i hpas
    split at hy
    · rename_i hnas
      split at hy
      · rename_i v rows' mv hc
        split at hy
        · rename_i hpv
          split at hy
          · rename_i hcond
            simp only [Bool.and_eq_true, Bool.not_eq_true'] at hcond
            obtain ⟨hnv, hmv⟩ := hcond
            split at hy
            · rename_i m' hroot
              split at hy
              · rename_i hok
                simp only [Option.some.injEq] at hy
                subst hy
                have hSf : ∀ b, b ∈ ownL (μ r i) (mh m) → tg b = some (r, i + 1) := fun b hb => by
                  obtain ⟨j, row, K, q1, q2, q3, rfl⟩ := Zd3.1 hb
                  exact hfr.tag j row K q1 q2 q3
                have hbase := hfr.heap.base (S' := ownL (μ r i) (mh m)) fun j row K q1 q2 q3 => Zd3.2 ⟨j, row, K, q1, q2, q3, rfl⟩
                have hbT : HRT w (ownL (μ r i) (mh m)) ⟨(μ r i).at_, (μ r i).F, fun b => ∃ o, (μ r i).F b = some o⟩ (mh m) w := HRT.no hbase fun j row hj => (hfr.plain j row hj).1
                have hroot0 : ∃ (K : Loc) (row : Row), (mh m)[0]? = some row ∧ isAgg row.c = true ∧ μ r i 0 = some (some K) ∧ u = .pointer (some ⟨K.block, K.base, none⟩) := by
                  rcases hax with ⟨hz, rfl⟩ | ⟨hz, rfl⟩
                  · obtain ⟨K, c, k1, k2, k3, k4, k5⟩ := hfr.ptr hz
                    simp only [VR] at hu
                    obtain ⟨q, rfl, l, hl, hq⟩ := hu
                    rw [hL] at hl; cases hl
                    exact ⟨K, _, k1, k2, k3, by rw [hq L rfl, k4, k5]⟩
                  · obtain ⟨K, l, k1, k2, k3, k4, k5⟩ := hfr.val hz
                    simp only [VR] at hu
                    obtain ⟨q, rfl, l', hl, hq⟩ := hu
                    rw [hL] at hl; cases hl
                    exact ⟨K, _, k1, rfl, k3, by rw [hq L rfl, k4, k5, hLb, Nat.zero_add]⟩
                obtain ⟨K, row0, k1, k2, k3, k4⟩ := hroot0
                have hpos : ∀ p, p < (mh m).length → (μ r i) p ≠ none := fun p hp => by
                  have hpr := List.getElem?_eq_getElem hp
                  rcases hfr.heap.rows p _ hpr with ⟨e1, e2⟩ | ⟨K', e1, _⟩
                  · cases p with
                    | zero =>
                      rw [hpr] at k1; cases k1
                      rw [e1] at k2; simp [isAgg] at k2
                    | succ p =>
                      rw [hfr.rest p _ hpr] at e2
                      rw [e2]; simp
                  · rw [e1]; simp
                have hargs : VRs (⟨(μ r i).at_, (μ r i).F, fun b => ∃ o, (μ r i).F b = some o⟩ : RM) (.ptr 0 0 :: as) (u :: us) := by
                  simp only [VRs]
                  refine ⟨u, us, rfl, ?_, Zkl hpas hnas hus⟩
                  simp only [VR]
                  exact ⟨_, k4, some K, k3, fun L' e => by cases e; rfl⟩
                have hfn := hcall _ _ _ _ _ _ hc w _ _ (u :: us) hbT hpos hargs
                intro Kc Q hK
                simp only [Oper.wp, hrun, Oper.upon_enter]
                refine hfn.mono fun e' w' ⟨v', ρ', he', hvr, hRT, hlen, hkeep, hmn, hml, hmo, hF, hF0⟩ => ?_
                subst he'
                have hR := hRT.1
                refine hK v' w' ρ (le_refl _) (ZlN hpv hnv hvr) ?_
                simp only [List.foldl_cons, List.foldl_nil, List.append_nil, setRow]
                have hSS : ∀ b ∈ ownL (μ r i) (mh m), b ∈ S ∨ w0.heap.size ≤ b := fun b hb => (ht.inn b _ (hSf b hb)).2.2
                have hfr2 := hh.frame.two hR.frame hSS
                have hsame : ∀ b, b < w.heap.size → tg b ≠ some (r, i + 1) → w'.heap[b]? = w.heap[b]? := fun b hb hne => hR.frame.block b hb fun hs => hne (hSf b hs)
                have hrowB : ∀ (j : Nat) (row : Row) (J : Loc), h[j]? = some row → ρ j = some (some J) → tg J.block ≠ some (r, i + 1) := fun j row J hj hJ => by
                  cases htr : Zw row.c with
                  | false => rw [ht.out j row J hj htr hJ]; simp
                  | true =>
                    obtain ⟨z', els', rfl⟩ := Zc4 (ht.ro j row hj htr) htr
                    obtain ⟨J', q1, _, q3, _⟩ := ht.list j z' els' hj
                    rw [hJ] at q1; cases q1
                    rw [q3]
                    simp
                have hget : ∀ (j : Nat) (row : Row), (h.set r ⟨false, .tree z (els.set i m')⟩)[j]? = some row → (j = r ∧ row = ⟨false, .tree z (els.set i m')⟩) ∨ (j ≠ r ∧ h[j]? = some row) := by
                  intro j row hj
                  by_cases e : j = r
                  · subst e
                    rw [List.getElem?_set_self hrl] at hj
                    cases hj
                    exact .inl ⟨rfl, rfl⟩
                  · rw [List.getElem?_set_ne (Ne.symm e)] at hj
                    exact .inr ⟨e, hj⟩
                have hFt : ∀ b o, ρ.F b = some o → tg b ≠ some (r, i + 1) := fun b o hb hx => by rw [(ht.inn b _ hx).2.1] at hb; cases hb
                have hHR : HR w0 S ρ (h.set r ⟨false, .tree z (els.set i m')⟩) w' := by
                  refine ⟨fun j hj => hh.out j ?_, fun j row hj => ?_, fun j J hJ => Nat.lt_of_lt_of_le (hh.lt j J hJ) hR.frame.size, fun j row J hj hro hJ => ?_, fun j k row J J' hj hne hro hJ hJ' => ?_, hfr2, fun b o hb => (hsame b (hh.froz_lt hb) (hFt b o hb)).trans (hh.froz b o hb), fun j row J hj hro hJ => ?_, hh.cold⟩
                  · rw [List.getElem?_eq_none_iff] at hj ⊢
                    simpa using hj
                  · rcases hget j row hj with ⟨rfl, rfl⟩ | ⟨hne, hj⟩
                    · refine .inr ⟨L, hL, Nat.zero_le _, ?_⟩
                      rw [if_neg (by simp)]
                      exact ⟨rfl, fun q e hq => by simp [cget] at hq⟩
                    · refine (hh.rows j row hj).imp id fun ⟨J, h1, h2⟩ => ⟨J, h1, h2.same (hsame _ (hh.lt j J h1) (hrowB j row J hj h1))⟩
                  · rcases hget j row hj with ⟨rfl, rfl⟩ | ⟨hne, hj⟩
                    · cases hro
                    · exact hh.own j row J hj hro hJ
                  · rcases hget j row hj with ⟨rfl, rfl⟩ | ⟨hne', hj⟩
                    · cases hro
                    · exact hh.apart j k row J J' hj hne hro hJ hJ'
                  · rcases hget j row hj with ⟨rfl, rfl⟩ | ⟨hne', hj⟩
                    · cases hro
                    · exact hh.ice j row J hj hro hJ
                obtain ⟨ids, hnd, ⟨rr, hids⟩, hidok, rfl⟩ := ZfZ hroot
                have hsub := hR.sub hnd fun j hj => (hidok j hj).2
                generalize hμ' : (RM.mk (fun j => if j < ids.length then ρ' (ids.getD j 0) else none) (fun _ => none) fun _ => False) = μ' at hsub
                have hμF : μ'.F = fun _ => none := by rw [← hμ']
                have hμ0 : μ' 0 = ρ' 0 := by rw [← hμ', hids]; simp
                have hnew : ∀ b, ownB μ' (mh (Zac rows' ids)) b → b ∈ ownL (μ r i) (mh m) ∨ w.heap.size ≤ b := fun b hb => by
                  obtain ⟨j, row, J, q1, q2, q3, rfl⟩ := hb
                  exact hsub.own j row J q1 q2 q3
                have hnewlt : ∀ b, ownB μ' (mh (Zac rows' ids)) b → b < w'.heap.size := fun b hb => by
                  obtain ⟨j, row, J, q1, q2, q3, rfl⟩ := hb
                  exact hsub.lt j J q3
                have hother : ∀ b x, tg b = some x → x ≠ (r, i + 1) → ¬ ownB μ' (mh (Zac rows' ids)) b := fun b x hx hne hb => by
                  rcases hnew b hb with e | e
                  · rw [hSf b e] at hx; cases hx; exact hne rfl
                  · have := (ht.inn b x hx).1; omega
                have hroot0' : ρ' 0 = some (some K) := by
                  have hmlen : 0 < (mh m).length := (List.getElem?_eq_some_iff.1 k1).1
                  have hmem : (0 : Nat) ∉ mv := by simpa using hmv
                  rcases hkeep 0 hmlen hmem with e | e
                  · exact e.trans k3
                  · obtain ⟨o', c', q, e1, _, _, _, e2, _⟩ := ZaB hok
                    have hr0 : (mh (Zac rows' ids))[0]? = some ⟨o', c'⟩ := by rw [e1]; rfl
                    obtain ⟨J, j1, _⟩ := hsub.live hr0 (e2 (o', c') (by rw [e1]; simp)).1
                    rw [hμ0, e] at j1; cases j1
                classical
                refine ⟨hHR, fun r' k => if r' = r ∧ k = i then μ' else μ r' k, fun b => if ownB μ' (mh (Zac rows' ids)) b then some (r, i + 1) else if tg b = some (r, i + 1) then none else tg b, fun j row hj htr => ?_, fun r' z' els' hr' => ?_, fun j row J hj htr hJ => ?_, fun b x hx => ?_⟩
                · rcases hget j row hj with ⟨rfl, rfl⟩ | ⟨hne, hj⟩
                  · rfl
                  · exact ht.ro j row hj htr
                · -- the lists
                  have hkeepTg : ∀ b x, tg b = some x → x ≠ (r, i + 1) → (if ownB μ' (mh (Zac rows' ids)) b then some (r, i + 1) else if tg b = some (r, i + 1) then none else tg b) = some x := fun b x hx hne => by
                    rw [if_neg (hother b x hx hne), hx, if_neg (fun e => hne (Option.some.inj e))]
                  rcases hget r' _ hr' with ⟨rfl, e⟩ | ⟨hne, hr'⟩
                  · simp only [Row.mk.injEq, EV.tree.injEq, true_and] at e
                    obtain ⟨rfl, rfl⟩ := e
                    have hwL := hsame L.block (ht.inn _ _ htg).1 (by rw [htg]; simp)
                    refine ⟨L, hL, hLb, hkeepTg _ _ htg (by simp), ⟨lc, lt, hwL.trans hlw, hlr, by rw [List.length_set]; exact hlz⟩, fun hz k hk => ?_, fun k mk hk => ?_⟩
                    · rw [List.length_set] at hk
                      have := hlink hz k hk
                      simpa [World.cell?, hwL] using this
                    · by_cases hki : k = i
                      · subst hki
                        rw [List.getElem?_set_self hil] at hk
                        simp only [Option.some.injEq] at hk
                        subst hk
                        rw [if_pos ⟨rfl, rfl⟩]
                        have hback := hh.back hSS hsub hμF hfr2
                        refine ⟨hback, hμF, fun j row hj => (ZaR hok hj).1, fun hz j row hj => Zcl hok hz hj, fun j row J q1 q2 q3 => by rw [if_pos ⟨j, row, J, q1, q2, q3, rfl⟩], fun hz => ?_, fun hz => ?_, fun j row hj => ZbJ hok hj⟩
                        · obtain ⟨o', c', q, e1, e2, _, _, e3, _⟩ := ZaB hok
                          obtain ⟨K', c'', f1, f2, f3, f4, f5⟩ := hfr.ptr hz
                          rw [k3] at f3; cases f3
                          exact ⟨K, c', by rw [e1, e2 hz]; rfl, (e3 (o', c') (by rw [e1]; simp)).1, hμ0.trans hroot0', f4, f5⟩
                        · obtain ⟨o', c', q, e1, _, e2, _, e3, _⟩ := ZaB hok
                          obtain ⟨rfl, l, rfl, hl⟩ := e2 hz
                          obtain ⟨K', l'', f1, f2, f3, f4, f5⟩ := hfr.val hz
                          rw [k3] at f3; cases f3
                          exact ⟨K, l, by rw [e1]; rfl, hl, hμ0.trans hroot0', f4, f5⟩
                      · rw [List.getElem?_set_ne (Ne.symm hki)] at hk
                        rw [if_neg (fun e => hki e.2)]
                        exact ((hfrs k mk hk).keep hfr2 hR.frame.size hwL fun b hb => hsame b (ht.inn b _ hb).1 (by rw [hb]; simp; omega)).mono fun b hb => hkeepTg b _ hb (by simp; omega)
                  · obtain ⟨L', q1, q2, q3, ⟨c', t', q4, q5, q6⟩, q7, q8⟩ := ht.list r' z' els' hr'
                    have hwL := hsame L'.block (ht.inn _ _ q3).1 (by rw [q3]; simp)
                    refine ⟨L', q1, q2, hkeepTg _ _ q3 (by simp), ⟨c', t', hwL.trans q4, q5, q6⟩, fun hz k hk => ?_, fun k mk hk => ?_⟩
                    · have := q7 hz k hk
                      simpa [World.cell?, hwL] using this
                    · rw [if_neg (fun e => hne e.1)]
                      exact ((q8 k mk hk).keep hfr2 hR.frame.size hwL fun b hb => hsame b (ht.inn b _ hb).1 (by rw [hb]; simp; exact fun e => absurd e hne)).mono fun b hb => hkeepTg b _ hb (by simp; exact fun e => absurd e hne)
                · rcases hget j row hj with ⟨rfl, rfl⟩ | ⟨hne, hj⟩
                  · cases htr
                  · have h1 := ht.out j row J hj htr hJ
                    rw [if_neg fun hb => ?_, h1]
                    · simp
                    · rcases hnew _ hb with e | e
                      · rw [hSf _ e] at h1; cases h1
                      · have := hh.lt j J hJ; omega
                · by_cases hb : ownB μ' (mh (Zac rows' ids)) b
                  · refine ⟨hnewlt b hb, ?_, ?_⟩
                    · cases hF' : ρ.F b with
                      | none => rfl
                      | some o =>
                        rcases hnew b hb with e | e
                        · exact absurd (hSf b e) (hFt b o hF')
                        · have := hh.froz_lt hF'; omega
                    · rcases hnew b hb with e | e
                      · exact hSS b e
                      · have := hh.frame.size; exact .inr (by omega)
                  · rw [if_neg hb] at hx
                    split at hx
                    · cases hx
                    · obtain ⟨b1, b2, b3⟩ := ht.inn b x hx
                      exact ⟨Nat.lt_of_lt_of_le b1 hR.frame.size, b2, b3⟩
              · cases hy
            · cases hy
          · cases hy
        · cases hy
      · cases hy
    · cases hy
  · cases hy
end
end Go.Sx
