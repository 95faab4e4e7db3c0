/-
  A call where lists whose elements have heaps of their own are handed over. Conditions: none.
-/
import Derived.Test.YtlbfafbhflblcaaSx4
namespace Go.Sx
open Go
set_option linter.unusedVariables false
set_option linter.unusedSimpArgs false
def Znx (P : Program) (f : FuncId) (args : List EV) (h : List Row) (r : EV) (h' : List Row) (mv : List Nat) : Prop :=
  ∀ (w : World) (S : List Nat) (ρ : RM) (vs : List Value), HRT w S ρ h w → (∀ i, i < h.length → ρ i ≠ none) → VRs ρ args vs → Calls P f vs.toArray w fun e w' =>
    ∃ v ρ', e = .returned v ∧ VR ρ' r v ∧ HRT w S ρ' h' w' ∧ h.length ≤ h'.length ∧ (∀ i, i < h.length → i ∉ mv → ρ' i = ρ i ∨ ρ' i = some none) ∧ mv.Nodup ∧ (∀ i ∈ mv, i < h.length) ∧
      (∀ (i : Nat) (row : Row), (h.length ≤ i ∨ i ∈ mv) → h'[i]? = some row → row.own = true ∨ Zw row.c = true) ∧ leF ρ.F ρ'.F ∧ ρ'.F0 = ρ.F0
def ZaK (P : Program) (call : ZS) : Prop := ∀ f args h r h' mv, call f args h = some (r, h', mv) → Znx P f args h r h' mv
def ZgK (P : Program) (o : Oper) (a : Act) (w0 : World) (S : List Nat) (ρ : RM) (h : List Row) (w : World) (e : Eff) : Prop :=
  ∀ (K : Act → World → Prop) (Q : Exit → Act → World → Prop),
    (∀ v w' ρ', le ρ ρ' → VR ρ' e.v v → HRT w0 S ρ' (e.upd.foldl setRow h ++ e.news) w' → K (a.put o.dst v) w') → o.wp P a w K Q
theorem ZaL (σ : Nat → Option Nat) (c : EV) : Zw (ren σ c) = Zw c := by
  cases c <;> simp only [ren] <;> (try split) <;> rfl
theorem ZlM {σ : Nat → Option Nat} {c : EV} {z : Nat} {els : List (List (Bool × EV))} (h : ren σ c = .tree z els) : c = .tree z els := by
  cases c <;> simp only [ren] at h <;> first | exact h | cases h | (split at h <;> cases h)
theorem ZcL {σ : Nat → Option Nat} {row : Row} {z : Nat} {els : List (List (Bool × EV))} (h : (⟨false, .tree z els⟩ : Row) = Zr σ row) : row = ⟨false, .tree z els⟩ := by
  obtain ⟨o, c⟩ := row
  simp only [Zr, Row.mk.injEq] at h
  rw [ZlM h.2.symm, ← h.1]
theorem Zc4 {row : Row} (h1 : row.own = false) (h2 : Zw row.c = true) : ∃ z els, row = ⟨false, .tree z els⟩ := by
  obtain ⟨o, c⟩ := row
  cases c <;> simp [Zw] at h2
  rename_i z els
  simp only at h1
  subst h1
  exact ⟨z, els, rfl⟩
section
variable {P : Program} {call : ZS} {a : Act} {w w0 : World} {S : List Nat} {σ : Nat → EV} {ρ : RM} {h : List Row} {n : Nat}
theorem Ziu {o : Oper} {f : FuncId} {args : List EV} {vs : List Value} (hrun : (execOp a.eval o).run P w = .ok (.enter f vs.toArray) w) (hargs : VRs ρ args vs) (hT : HRT w0 S ρ h w) (hcall : ZaK P call) {e : Eff} (he : Za3 call f args h = some e) : ZgK P o a w0 S ρ h w e := by
  obtain ⟨hh, μ, tg, ht⟩ := hT
  unfold Za3 at he
  simp only at he
  generalize hids : Zaa h ZB (ZI args) [] = ids at he
  have hnd : ids.Nodup := by rw [← hids]; exact Zay h _ _ _ List.nodup_nil
  split at he
  · rename_i hall
    have hall' : ∀ i ∈ ids, i < h.length ∧ fresh h i = false := fun i hi => by simpa using List.all_eq_true.1 hall i hi
    have hlt : ∀ i ∈ ids, i < h.length := fun i hi => (hall' i hi).1
    split at he
    · simp at he
    · rename_i r rows' mv hc
      simp only [Option.some.injEq] at he
      subst he
      obtain ⟨ρ2a, hρ2, hR2a, hσ2a, hσ2b, hF2, hF02⟩ := hh.reindex (h2 := ids.map fun i => Zr (ZT ids) (Zo h i)) (src := fun j => ids.getD j 0) (to := ZT ids)
        (fun j hj => by
          simp only [List.length_map] at hj
          simp [List.getD_eq_getElem?_getD, List.getElem?_eq_getElem hj])
        (fun i j hij => by
          unfold ZT at hij
          split at hij
          · rename_i hi
            simp only [Option.some.injEq] at hij
            subst hij
            obtain ⟨p, q⟩ := Zaw (l := ids) (by simpa using hi)
            exact ⟨by simpa using p, q⟩
          · simp at hij)
        (fun j k hj hk hjk => by
          simp only [List.length_map] at hj hk
          have e1 := (ZO hnd hj).1
          have e2 := (ZO hnd hk).1
          rw [← e1, ← e2, hjk])
      have hR2 := hR2a.refz (F0 := fun b => ∃ o, ρ.F b = some o) (fun b o hb => .inl ⟨o, by rw [← hF2]; exact hb⟩)
      generalize hρ2e : RM.mk ρ2a.at_ ρ2a.F (fun b => ∃ o, ρ.F b = some o) = ρ2 at hR2
      have hat : ∀ j, ρ2 j = ρ2a j := fun j => by rw [← hρ2e]
      have hF2 : ρ2.F = ρ.F := by rw [← hρ2e]; exact hF2
      have hF02 : ρ2.F0 = fun b => ∃ o, ρ.F b = some o := by rw [← hρ2e]
      have hρ2 : ∀ j, ρ2 j = _ := fun j => (hat j).trans (hρ2 j)
      have hσ2 : (∀ r s l, ZT ids r = some s → ρ r = some l → ρ2 s = some l ∨ ρ2 s = some none) ∧ leF ρ.F ρ2.F := ⟨fun r s l h1 h2 => by rw [hat]; exact hσ2a r s l h1 h2, by rw [hF2]; exact Zae _⟩
      simp only [List.length_map] at hρ2
      let S1 : List Nat := ids.filterMap fun i => match h[i]?, ρ i with
        | some row, some (some L) => if row.own then some L.block else none
        | _, _ => none
      let S2 : List Nat := (List.range w.heap.size).filter fun b => match tg b with
        | some (r, _) => ids.contains r
        | none => false
      have hS1 : ∀ b, b ∈ S1 ↔ ∃ (i : Nat) (row : Row) (L : Loc), i ∈ ids ∧ h[i]? = some row ∧ ρ i = some (some L) ∧ row.own = true ∧ L.block = b := by
        intro b
        simp only [S1, List.mem_filterMap]
        constructor
        · rintro ⟨i, hi, hb⟩
          split at hb
          · rename_i row L h1 h2
            split at hb
            · simp only [Option.some.injEq] at hb
              exact ⟨i, row, L, hi, h1, h2, by assumption, hb⟩
            · simp at hb
          · simp at hb
        · rintro ⟨i, row, L, hi, h1, h2, h3, h4⟩
          exact ⟨i, hi, by simp [h1, h2, h3, h4]⟩
      have hS2 : ∀ b, b ∈ S2 ↔ ∃ r k, tg b = some (r, k) ∧ r ∈ ids := by
        intro b
        simp only [S2, List.mem_filter, List.mem_range]
        constructor
        · rintro ⟨_, hb⟩
          split at hb
          · rename_i r k hr
            exact ⟨r, k, hr, by simpa using hb⟩
          · cases hb
        · rintro ⟨r, k, hr, hi⟩
          exact ⟨(ht.inn b _ hr).1, by rw [hr]; simpa using hi⟩
      let S' : List Nat := S1 ++ S2
      have hmini : HR w S' ρ2 (ids.map fun i => Zr (ZT ids) (Zo h i)) w := by
        refine ⟨hR2.out, hR2.rows, hR2.lt, fun j row L hj ho hL => ?_, hR2.apart, Fr.refl _ _, hR2.froz, hR2.ice, fun b o hb => .inl (by rw [hF02]; exact ⟨o, by rw [← hF2]; exact hb⟩)⟩
        left
        have hjl : j < ids.length := by simpa using (List.getElem?_eq_some_iff.1 hj).1
        rw [hρ2 j, if_pos hjl] at hL
        have hgi : ∃ row', h[ids.getD j 0]? = some row' := by
          cases hx : h[ids.getD j 0]? with
          | none => rw [hh.out _ hx] at hL; cases hL
          | some row' => exact ⟨row', rfl⟩
        obtain ⟨row', hrow'⟩ := hgi
        have hrow : row = Zr (ZT ids) row' := by
          simp only [List.getElem?_map, List.getElem?_eq_getElem hjl, Option.map_some, Option.some.injEq] at hj
          rw [← hj]
          have hg : ids[j] = ids.getD j 0 := by simp [List.getD_eq_getElem?_getD, List.getElem?_eq_getElem hjl]
          rw [hg]
          unfold Zo
          rw [List.getD_eq_getElem?_getD, hrow']
          rfl
        exact List.mem_append_left _ ((hS1 _).2 ⟨_, row', L, (ZO hnd hjl).2.2, hrow', hL, by rw [hrow] at ho; exact ho, rfl⟩)
      have hpos : ∀ p, p < (ids.map fun i => Zr (ZT ids) (Zo h i)).length → ρ2 p ≠ none := by
        intro p hp
        simp only [List.length_map] at hp
        rw [hρ2 p, if_pos hp]
        obtain ⟨q1, q2⟩ := hall' _ (ZO hnd hp).2.2
        have hrow := List.getElem?_eq_getElem q1
        rcases hh.rows _ _ hrow with ⟨h1, h2⟩ | ⟨L, h1, _⟩
        · rw [h2]
          split
          · simp
          · rename_i ho
            exfalso
            unfold fresh at q2
            rw [hrow] at q2
            generalize h[ids.getD p 0] = R at h1 ho q2
            obtain ⟨ow, cc⟩ := R
            simp only at h1 ho
            subst h1
            cases ow
            · simp at q2
            · exact ho rfl
        · rw [h1]; simp
      have hrowOf : ∀ j (row : Row), (ids.map fun i => Zr (ZT ids) (Zo h i))[j]? = some row → j < ids.length ∧ row = Zr (ZT ids) (Zo h (ids.getD j 0)) ∧ h[ids.getD j 0]? = some (Zo h (ids.getD j 0)) := by
        intro j row hj
        have hjl : j < ids.length := by simpa using (List.getElem?_eq_some_iff.1 hj).1
        have hg : ids[j] = ids.getD j 0 := by simp [List.getD_eq_getElem?_getD, List.getElem?_eq_getElem hjl]
        simp only [List.getElem?_map, List.getElem?_eq_getElem hjl, Option.map_some, Option.some.injEq] at hj
        refine ⟨hjl, by rw [← hj, hg], ?_⟩
        have := hlt _ (ZO hnd hjl).2.2
        generalize ids.getD j 0 = q at this ⊢
        unfold Zo
        rw [List.getD_eq_getElem?_getD, List.getElem?_eq_getElem this]
        rfl
      have hmap0 : ∀ p, p < ids.length → ρ2 p = ρ (ids.getD p 0) := fun p hp => by rw [hρ2 p, if_pos hp]
      have hminiT : HRT w S' ρ2 (ids.map fun i => Zr (ZT ids) (Zo h i)) w := by
        refine ⟨hmini, fun j k => ⟨(μ (ids.getD j 0) k).at_, fun _ => none, fun b => ∃ o, (fun _ => (none : Option Obj)) b = some o⟩, fun b => match tg b with
          | some (r, k) => if ids.contains r then some (ids.idxOf r, k) else none
          | none => none, fun j row hj ht1 => ?_, fun j z els hj => ?_, fun j row L hj ht1 hL => ?_, fun b x hx => ?_⟩
        · obtain ⟨hjl, rfl, hg⟩ := hrowOf j row hj
          exact ht.ro _ (Zo h (ids.getD j 0)) hg (by rw [← ZaL (ZT ids)]; exact ht1)
        · obtain ⟨hjl, hrow, hg⟩ := hrowOf j _ hj
          obtain ⟨q1, q2, q3⟩ := ZO hnd hjl
          rw [ZcL hrow] at hg
          obtain ⟨L, h1, h2, h3, h4, h5, h6⟩ := ht.list _ z els hg
          refine ⟨L, by rw [hmap0 j hjl]; exact h1, h2, by rw [h3]; simp only; rw [if_pos q2, q1], h4, h5, fun i m hm => ?_⟩
          have hfr := h6 i m hm
          have hb := hfr.heap.base (S' := S') (fun j' row K hr ho hK => List.mem_append_right _ ((hS2 _).2 ⟨_, _, hfr.tag j' row K hr ho hK, q3⟩))
          rw [hfr.F] at hb
          exact ⟨hb, rfl, hfr.plain, hfr.off, fun j' row K hr ho hK => by rw [hfr.tag j' row K hr ho hK]; simp only; rw [if_pos q2, q1], hfr.ptr, hfr.val, hfr.rest⟩
        · obtain ⟨hjl, rfl, hg⟩ := hrowOf j row hj
          rw [hmap0 j hjl] at hL
          rw [ht.out _ _ L hg (by rw [← ZaL (ZT ids)]; exact ht1) hL]
        · cases hb : tg b with
          | none => rw [hb] at hx; cases hx
          | some y =>
            obtain ⟨r, k⟩ := y
            rw [hb] at hx
            simp only at hx
            split at hx
            · rename_i hr
              obtain ⟨b1, b2, b3⟩ := ht.inn b _ hb
              exact ⟨b1, by rw [hF2]; exact b2, .inl (List.mem_append_right _ ((hS2 b).2 ⟨r, k, hb, by simpa using hr⟩))⟩
            · cases hx
      have hfn := hcall _ _ _ _ _ _ hc w S' ρ2 vs hminiT hpos (ZcG hσ2 _ _ hargs)
      intro K Q hK
      simp only [Oper.wp, hrun, Oper.upon_enter]
      refine hfn.mono fun e' w' ⟨v, ρ', he', hvr, ⟨hR, μ', tg', ht'⟩, hlen, hkeep, hmn, hml, hmo, hF, hF0⟩ => ?_
      subst he'
      simp only [List.length_map] at hlen hkeep hml hmo
      have hmap : ∀ p, p < ids.length → ρ2 p = ρ (ids.getD p 0) := fun p hp => by rw [hρ2 p, if_pos hp]
      let ρ3 : RM := ⟨fun i =>
        if i < h.length then (if ids.contains i then (if mv.contains (ids.idxOf i) then some none else ρ' (ids.idxOf i)) else ρ i)
        else if i < h.length + mv.length then ρ' (mv.getD (i - h.length) 0)
        else ρ' (ids.length + (i - (h.length + mv.length))), ρ'.F, ρ.F0⟩
      have hFF : leF ρ'.F ρ3.F := Zae _
      have hFe : ρ3.F = ρ'.F := rfl
      have hle : le ρ ρ3 := by
        refine ⟨fun i l hl => ?_, (by rw [← hF2]; exact hF), rfl⟩
        have hi : i < h.length := by
          rcases Nat.lt_or_ge i h.length with h1 | h1
          · exact h1
          · rw [hh.out i (List.getElem?_eq_none h1)] at hl; cases hl
        simp only [ρ3, hi, if_true]
        split
        · rename_i hci
          obtain ⟨p1, p2⟩ := Zaw (l := ids) (i := i) (by simpa using hci)
          split
          · exact .inr rfl
          · rename_i hmi
            rcases hkeep _ p1 (by simpa using hmi) with hk | hk
            · left
              rw [hk, hmap _ p1, p2]
              exact hl
            · exact .inr hk
        · exact .inl hl
      have hback : ∀ p s l, ZR ids mv h.length p = some s → ρ' p = some l → ρ3 s = some l ∨ ρ3 s = some none := by
        intro p s l hs hl
        left
        unfold ZR at hs
        split at hs
        · rename_i hp
          split at hs
          · rename_i hpm
            simp only [Option.some.injEq] at hs
            subst hs
            obtain ⟨p1, p2⟩ := Zaw (l := mv) (i := p) (by simpa using hpm)
            have h1 : ¬ (h.length + mv.idxOf p < h.length) := by omega
            have h2 : h.length + mv.idxOf p < h.length + mv.length := by omega
            simp only [ρ3, h1, if_false, h2, if_true, Nat.add_sub_cancel_left, p2]
            exact hl
          · rename_i hpm
            simp only [Option.some.injEq] at hs
            subst hs
            obtain ⟨q1, q2, q3⟩ := ZO hnd hp
            have hlt' := hlt _ q3
            simp only [ρ3, hlt', if_true, q2, q1]
            rw [if_neg hpm]
            exact hl
        · rename_i hp
          simp only [Option.some.injEq] at hs
          subst hs
          have h1 : ¬ (h.length + mv.length + (p - ids.length) < h.length) := by omega
          have h2 : ¬ (h.length + mv.length + (p - ids.length) < h.length + mv.length) := by omega
          have h3 : ids.length + (h.length + mv.length + (p - ids.length) - (h.length + mv.length)) = p := by omega
          simp only [ρ3, h1, if_false, h2, h3]
          exact hl
      refine hK v w' ρ3 hle (Zgu ⟨hback, hFF⟩ _ _ hvr) ?_
      generalize hupd : ((List.range ids.length).map fun p => (ids.getD p 0, if mv.contains p then (⟨true, .unk⟩ : Row) else Zr (ZR ids mv h.length) (Zo rows' p))) = upd
      have hkeys : upd.map (·.1) = ids := by
        rw [← hupd, List.map_map]
        refine List.ext_getElem (by simp) fun j h1 h2 => ?_
        simp [List.getD_eq_getElem?_getD, List.getElem?_eq_getElem h2]
      have hl3 : (upd.foldl setRow h).length = h.length := ZY _ _
      have hgr : ∀ p, p < rows'.length → rows'[p]? = some (Zo rows' p) := fun p hp => by simp [Zo, List.getD_eq_getElem?_getD, List.getElem?_eq_getElem hp]
      generalize hH3 : (upd.foldl setRow h ++ ((mv.map fun p => Zr (ZR ids mv h.length) (Zo rows' p)) ++ (rows'.drop ids.length).map (Zr (ZR ids mv h.length)))) = H3
      have hcls : ∀ i, (i < h.length ∧ i ∉ ids ∧ ρ3 i = ρ i ∧ H3[i]? = h[i]?) ∨ (ρ3 i = some none ∧ H3[i]? = some ⟨true, .unk⟩) ∨ ∃ p, ZR ids mv h.length p = some i ∧ ρ3 i = ρ' p ∧ H3[i]? = (rows'[p]?).map (Zr (ZR ids mv h.length)) := by
        intro i
        by_cases hi : i < h.length
        · have hH : H3[i]? = (upd.foldl setRow h)[i]? := by rw [← hH3, List.getElem?_append_left (by rw [hl3]; exact hi)]
          by_cases hci : i ∈ ids
          · obtain ⟨p1, p2⟩ := Zaw hci
            have hmem : (i, if mv.contains (ids.idxOf i) then (⟨true, .unk⟩ : Row) else Zr (ZR ids mv h.length) (Zo rows' (ids.idxOf i))) ∈ upd := by
              rw [← hupd]
              exact List.mem_map.2 ⟨ids.idxOf i, List.mem_range.2 p1, by rw [p2]⟩
            have hat := ZaD upd h i _ (by rw [hkeys]; exact hnd) hmem hi
            rw [← hH] at hat
            by_cases hm : mv.contains (ids.idxOf i) = true
            · right; left
              rw [if_pos hm] at hat
              refine ⟨?_, hat⟩
              simp only [ρ3, hi, if_true]
              rw [if_pos (by simpa using hci), if_pos hm]
            · right; right
              rw [if_neg hm] at hat
              refine ⟨ids.idxOf i, ?_, ?_, ?_⟩
              · unfold ZR; rw [if_pos p1, if_neg hm, p2]
              · simp only [ρ3, hi, if_true]
                rw [if_pos (by simpa using hci), if_neg hm]
              · rw [hat, hgr _ (by omega)]; rfl
          · left
            refine ⟨hi, hci, ?_, ?_⟩
            · simp only [ρ3, hi, if_true]
              rw [if_neg (by simpa using hci)]
            · rw [hH, Zab upd h i (fun q hq e => hci (by rw [← hkeys, ← e]; exact List.mem_map.2 ⟨q, hq, rfl⟩))]
        · right; right
          have hH : H3[i]? = ((mv.map fun p => Zr (ZR ids mv h.length) (Zo rows' p)) ++ (rows'.drop ids.length).map (Zr (ZR ids mv h.length)))[i - h.length]? := by
            rw [← hH3, List.getElem?_append_right (by rw [hl3]; omega), hl3]
          by_cases hi2 : i < h.length + mv.length
          · have hj : i - h.length < mv.length := by omega
            have hg : mv.getD (i - h.length) 0 = mv[i - h.length] := by simp [List.getD_eq_getElem?_getD, List.getElem?_eq_getElem hj]
            have hmem : mv.getD (i - h.length) 0 ∈ mv := by rw [hg]; exact List.getElem_mem hj
            refine ⟨mv.getD (i - h.length) 0, ?_, ?_, ?_⟩
            · unfold ZR
              rw [if_pos (hml _ hmem), if_pos (by simpa using hmem)]
              have := (ZO hmn hj).1
              rw [this]
              congr 1
              omega
            · simp only [ρ3, hi, if_false, hi2, if_true]
            · rw [hH, List.getElem?_append_left (by simpa using hj), List.getElem?_map, List.getElem?_eq_getElem hj, ← hg, hgr _ (Nat.lt_of_lt_of_le (hml _ hmem) hlen)]
              rfl
          · refine ⟨ids.length + (i - (h.length + mv.length)), ?_, ?_, ?_⟩
            · unfold ZR
              rw [if_neg (by omega)]
              congr 1
              omega
            · simp only [ρ3, hi, if_false, hi2]
            · rw [hH, List.getElem?_append_right (by simp; omega), List.getElem?_map, List.getElem?_drop]
              simp only [List.length_map]
              congr 2
              omega
      have hSb : ∀ b, b ∈ S' → b ∈ S ∨ w0.heap.size ≤ b := by
        intro b hb
        rcases List.mem_append.1 hb with hb | hb
        · obtain ⟨i, row, L, _, h1, h2, h3, rfl⟩ := (hS1 b).1 hb
          exact hh.own i row L h1 h3 h2
        · obtain ⟨r, k, h1, _⟩ := (hS2 b).1 hb
          exact (ht.inn b _ h1).2.2
      have hsz0 := hh.frame.size
      have hout : ∀ i K, i < h.length → i ∉ ids → ρ i = some (some K) → K.block ∉ S' ∧ K.block < w.heap.size := by
        intro i K hi hni hK
        refine ⟨fun hb => ?_, hh.lt i K hK⟩
        rcases List.mem_append.1 hb with hb | hb
        · obtain ⟨i', row, L, m1, m2, m3, m4, m5⟩ := (hS1 _).1 hb
          exact hh.apart i' i row L K m2 (by rintro rfl; exact hni m1) m4 m3 hK m5
        · obtain ⟨r, k, h1, h2⟩ := (hS2 _).1 hb
          have hri := List.getElem?_eq_getElem hi
          cases htr : Zw h[i].c with
          | false => rw [ht.out i _ K hri htr hK] at h1; cases h1
          | true =>
            have hro := ht.ro i _ hri htr
            obtain ⟨z, els, hze⟩ := Zc4 hro htr
            rw [hze] at hri
            obtain ⟨L, q1, _, q3, _⟩ := ht.list i z els hri
            rw [hK] at q1; cases q1
            rw [q3] at h1; cases h1
            exact hni h2
      have hmix : ∀ i p K J, i < h.length → i ∉ ids → ρ i = some (some K) → ρ' p = some (some J) → (∀ row, h[i]? = some row → row.own = true → K.block ≠ J.block) ∧ (∀ row, rows'[p]? = some row → row.own = true → J.block ≠ K.block) := by
        intro i p K J hi hni hK hJ
        obtain ⟨o1, o2⟩ := hout i K hi hni hK
        have hnew : ∀ row, rows'[p]? = some row → row.own = true → J.block ≠ K.block := by
          intro row hrow hown
          rcases hR.own p row J hrow hown hJ with hb | hb
          · rintro e; exact o1 (by rw [← e]; exact hb)
          · omega
        refine ⟨fun row hrow hown => ?_, hnew⟩
        by_cases hp : p < ids.length ∧ p ∉ mv
        · rcases hkeep p hp.1 hp.2 with hk | hk
          · rw [hk, hmap p hp.1] at hJ
            exact hh.apart i _ row K J hrow (by rintro rfl; exact hni (ZO hnd hp.1).2.2) hown hK hJ
          · rw [hk] at hJ; cases hJ
        · have hpl : ∃ row', rows'[p]? = some row' := by
            cases hx : rows'[p]? with
            | none => rw [hR.out p hx] at hJ; cases hJ
            | some row' => exact ⟨row', rfl⟩
          obtain ⟨row', hrow'⟩ := hpl
          rcases hmo p row' (by
            by_cases hp1 : p < ids.length
            · right; exact Decidable.byContradiction fun hn => hp ⟨hp1, hn⟩
            · left; omega) hrow' with hmo | hmo
          · exact (hnew row' hrow' hmo).symm
          · obtain ⟨z, els, hze⟩ := Zc4 (ht'.ro p row' hrow' hmo) hmo
            rw [hze] at hrow'
            obtain ⟨L, q1, _, q3, _⟩ := ht'.list p z els hrow'
            rw [hJ] at q1; cases q1
            rcases (ht'.inn _ _ q3).2.2 with hb | hb
            · rintro e; exact o1 (by rw [e]; exact hb)
            · rintro e; rw [← e] at hb; omega
      have hfr : Fr w0 S w' := by
        have f := hh.frame
        have g := hR.frame
        refine ⟨g.os.trans f.os, g.tape.trans f.tape, g.output.trans f.output, Nat.le_trans f.size g.size, fun b hb hn => (g.block b (by omega) (fun hs => ?_)).trans (f.block b hb hn)⟩
        rcases hSb b hs with h1 | h1
        · exact hn h1
        · omega
      have hcal : ∀ (i p : Nat) (row : Row), H3[i]? = (rows'[p]?).map (Zr (ZR ids mv h.length)) → H3[i]? = some row → ∃ row', rows'[p]? = some row' ∧ row = Zr (ZR ids mv h.length) row' := by
        intro i p row h1 h2
        rw [h1] at h2
        simp only [Option.map_eq_some_iff] at h2
        obtain ⟨row', h3, h4⟩ := h2
        exact ⟨row', h3, h4.symm⟩
      suffices hHR : HR w0 S ρ3 H3 w' by
        have hrest : ∀ b r k, tg b = some (r, k) → r ∉ ids → w'.heap[b]? = w.heap[b]? := fun b r k hb hr => hR.frame.block b (ht.inn b _ hb).1 fun hs => by
          rcases List.mem_append.1 hs with hs | hs
          · obtain ⟨i, row, L, _, m2, m3, m4, rfl⟩ := (hS1 b).1 hs
            have hnt : Zw row.c = false := by
              cases htr : Zw row.c with
              | false => rfl
              | true => rw [ht.ro i row m2 htr] at m4; cases m4
            rw [ht.out i row L m2 hnt m3] at hb; cases hb
          · obtain ⟨r', k', h1, h2⟩ := (hS2 b).1 hs
            rw [hb] at h1; cases h1
            exact hr h2
        have hne' : ∀ b x r k, tg' b = some x → tg b = some (r, k) → r ∈ ids := fun b x r k hb hr => by
          rcases (ht'.inn b x hb).2.2 with hs | hs
          · rcases List.mem_append.1 hs with hs | hs
            · obtain ⟨i, row, L, _, m2, m3, m4, rfl⟩ := (hS1 b).1 hs
              have hnt : Zw row.c = false := by
                cases htr : Zw row.c with
                | false => rfl
                | true => rw [ht.ro i row m2 htr] at m4; cases m4
              rw [ht.out i row L m2 hnt m3] at hr; cases hr
            · obtain ⟨r', k', h1, h2⟩ := (hS2 b).1 hs
              rw [hr] at h1; cases h1
              exact h2
          · have := (ht.inn b _ hr).1; omega
        have hnoback : ∀ i p, i < h.length → i ∉ ids → ZR ids mv h.length p ≠ some i := fun i p hi hni hb => by
          unfold ZR at hb
          split at hb
          · rename_i hp
            split at hb
            · simp only [Option.some.injEq] at hb; omega
            · simp only [Option.some.injEq] at hb
              exact hni (by rw [← hb]; exact (ZO hnd hp).2.2)
          · simp only [Option.some.injEq] at hb; omega
        classical
        refine ⟨hHR, fun i k => if hp : ∃ p, ZR ids mv h.length p = some i then μ' hp.choose k else μ i k, fun b => match tg' b with
          | some (p, k) => (ZR ids mv h.length p).map (·, k)
          | none => match tg b with
            | some (r, k) => if ids.contains r then none else some (r, k)
            | none => none, fun r row hr ht1 => ?_, fun r z els hr => ?_, fun i row L hi ht1 hL => ?_, fun b x hx => ?_⟩
        · rcases hcls r with ⟨c1, c2, c3, c4⟩ | ⟨c1, c2⟩ | ⟨p, c1, c2, c3⟩
          · exact ht.ro r row (by rw [← c4]; exact hr) ht1
          · rw [c2] at hr; cases hr; cases ht1
          · obtain ⟨row', h1, rfl⟩ := hcal r p row c3 hr
            exact ht'.ro p row' h1 (by rw [← ZaL (ZR ids mv h.length)]; exact ht1)
        · rcases hcls r with ⟨c1, c2, c3, c4⟩ | ⟨c1, c2⟩ | ⟨p, c1, c2, c3⟩
          · rw [c4] at hr
            obtain ⟨L, h1, h2, h3, ⟨c, t, h4, h5, h6⟩, h7, h8⟩ := ht.list r z els hr
            have htg : ∀ b k, tg b = some (r, k) → tg' b = none := fun b k hb => by
              cases hx : tg' b with
              | none => rfl
              | some x => exact absurd (hne' b x r k hx hb) c2
            have hcr : ids.contains r = false := by simpa using c2
            have hw := hrest _ _ _ h3 c2
            refine ⟨L, by rw [c3]; exact h1, h2, by simp only [htg _ _ h3, h3, hcr]; rfl, ⟨c, t, hw.trans h4, h5, h6⟩, fun hz i hi => ?_, fun i m hm => ?_⟩
            · have := h7 hz i hi
              simpa [World.cell?, hw] using this
            · rw [dif_neg (fun ⟨p, hp⟩ => hnoback r p c1 c2 hp)]
              exact ((h8 i m hm).keep hfr hR.frame.size hw fun b hb => hrest b _ _ hb c2).mono fun b hb => by simp only [htg _ _ hb, hb, hcr]; rfl
          · rw [c2] at hr; cases hr
          · obtain ⟨row', h1, h2⟩ := hcal r p _ c3 hr
            rw [ZcL h2] at h1
            obtain ⟨L, q1, q2, q3, q4, q5, q6⟩ := ht'.list p z els h1
            have hex : ∃ p, ZR ids mv h.length p = some r := ⟨p, c1⟩
            have hch : hex.choose = p := ZlK hnd hlt hex.choose_spec c1
            refine ⟨L, by rw [c2]; exact q1, q2, by simp only [q3, c1]; rfl, q4, q5, fun i m hm => ?_⟩
            have hfg := q6 i m hm
            rw [dif_pos hex, hch]
            exact ⟨hh.back hSb hfg.heap hfg.F hfr, hfg.F, hfg.plain, hfg.off, fun j row K k1 k2 k3 => by simp only [hfg.tag j row K k1 k2 k3, c1]; rfl, hfg.ptr, hfg.val, hfg.rest⟩
        · rcases hcls i with ⟨c1, c2, c3, c4⟩ | ⟨c1, c2⟩ | ⟨p, c1, c2, c3⟩
          · rw [c4] at hi
            rw [c3] at hL
            have h1 := ht.out i row L hi ht1 hL
            obtain ⟨o1, o2⟩ := hout i L c1 c2 hL
            have h2 : tg' L.block = none := by
              cases hx : tg' L.block with
              | none => rfl
              | some x =>
                rcases (ht'.inn _ x hx).2.2 with hb | hb
                · exact absurd hb o1
                · omega
            simp only [h1, h2]
          · rw [c1] at hL; cases hL
          · obtain ⟨row', h1, rfl⟩ := hcal i p row c3 hi
            rw [c2] at hL
            have ht2 : Zw row'.c = false := by rw [← ZaL (ZR ids mv h.length)]; exact ht1
            have h2 := ht'.out p row' L h1 ht2 hL
            simp only [h2]
            cases hb : tg L.block with
            | none => rfl
            | some y =>
              obtain ⟨r, k⟩ := y
              have hri : r ∈ ids := by
                cases ho : row'.own with
                | true =>
                  rcases hR.own p row' L h1 ho hL with hs | hs
                  · rcases List.mem_append.1 hs with hs | hs
                    · obtain ⟨i', row2, L', _, m2, m3, m4, m5⟩ := (hS1 _).1 hs
                      have hnt : Zw row2.c = false := by
                        cases htr : Zw row2.c with
                        | false => rfl
                        | true => rw [ht.ro i' row2 m2 htr] at m4; cases m4
                      have := ht.out i' row2 L' m2 hnt m3
                      rw [m5, hb] at this; cases this
                    · obtain ⟨r', k', m1, m2⟩ := (hS2 _).1 hs
                      rw [hb] at m1; cases m1
                      exact m2
                  · have := (ht.inn _ _ hb).1; omega
                | false =>
                  by_cases hp : p < ids.length ∧ p ∉ mv
                  · rcases hkeep p hp.1 hp.2 with hk | hk
                    · rw [hk, hmap p hp.1] at hL
                      obtain ⟨q1, q2, q3⟩ := ZO hnd hp.1
                      obtain ⟨row2, hgr⟩ : ∃ row2, h[ids.getD p 0]? = some row2 := ⟨_, List.getElem?_eq_getElem (hlt _ q3)⟩
                      cases htr : Zw row2.c with
                      | false => rw [ht.out _ _ L hgr htr hL] at hb; cases hb
                      | true =>
                        obtain ⟨z, els, hze⟩ := Zc4 (ht.ro _ _ hgr htr) htr
                        rw [hze] at hgr
                        obtain ⟨L', q1', _, q3', _⟩ := ht.list _ z els hgr
                        rw [hL] at q1'; cases q1'
                        rw [q3'] at hb; cases hb
                        exact q3
                    · rw [hk] at hL; cases hL
                  · rcases hmo p row' (by
                      by_cases hp1 : p < ids.length
                      · right; exact Decidable.byContradiction fun hn => hp ⟨hp1, hn⟩
                      · left; omega) h1 with hm | hm
                    · rw [ho] at hm; cases hm
                    · rw [ht2] at hm; cases hm
              simp only
              rw [if_pos (by simpa using hri)]
        · cases hb : tg' b with
          | some y =>
            obtain ⟨b1, b2, b3⟩ := ht'.inn b y hb
            refine ⟨b1, b2, ?_⟩
            rcases b3 with hs | hs
            · exact hSb b hs
            · exact .inr (by omega)
          | none =>
            rw [hb] at hx
            simp only at hx
            cases hb2 : tg b with
            | none => rw [hb2] at hx; cases hx
            | some y =>
              obtain ⟨r, k⟩ := y
              rw [hb2] at hx
              simp only at hx
              split at hx
              · cases hx
              · rename_i hri
                have hri : r ∉ ids := by simpa using hri
                obtain ⟨b1, b2, b3⟩ := ht.inn b _ hb2
                refine ⟨Nat.lt_of_lt_of_le b1 hR.frame.size, ?_, b3⟩
                show ρ'.F b = none
                cases hF2' : ρ'.F b with
                | none => rfl
                | some o =>
                  rcases hR.cold b o hF2' with e | e | e
                  · rw [hF0, hF02] at e
                    obtain ⟨o', e⟩ := e
                    rw [b2] at e; cases e
                  · rcases List.mem_append.1 e with e | e
                    · obtain ⟨i', row2, L', _, m2, m3, m4, m5⟩ := (hS1 _).1 e
                      have hnt : Zw row2.c = false := by
                        cases htr : Zw row2.c with
                        | false => rfl
                        | true => rw [ht.ro i' row2 m2 htr] at m4; cases m4
                      have := ht.out i' row2 L' m2 hnt m3
                      rw [m5, hb2] at this; cases this
                    · obtain ⟨r', k', m1, m2⟩ := (hS2 _).1 e
                      rw [hb2] at m1; cases m1
                      exact absurd m2 hri
                  · omega
      refine ⟨fun i hi => ?_, fun i row hi => ?_, fun i K hK => ?_, fun i row K hi ho hK => ?_, fun i j row K J hi hne ho hK hJ => ?_, hfr, fun b o hb => hR.froz b o hb, fun i row K hi ho hK => ?_, fun b o hb => ?_⟩
      · rcases hcls i with ⟨c1, c2, c3, c4⟩ | ⟨c1, c2⟩ | ⟨p, c1, c2, c3⟩
        · rw [c3]; exact hh.out i (by rw [← c4]; exact hi)
        · rw [c2] at hi; cases hi
        · rw [c2]
          rw [c3] at hi
          exact hR.out p (by simpa using hi)
      · rcases hcls i with ⟨c1, c2, c3, c4⟩ | ⟨c1, c2⟩ | ⟨p, c1, c2, c3⟩
        · rw [c4] at hi
          rw [c3]
          rcases hh.rows i row hi with h1 | ⟨K, h1, h2⟩
          · exact .inl h1
          · obtain ⟨o1, o2⟩ := hout i K c1 c2 h1
            exact .inr ⟨K, h1, (h2.same (hR.frame.block _ o2 o1)).mono hle⟩
        · rw [c2] at hi
          cases hi
          exact .inl ⟨rfl, by rw [c1]; rfl⟩
        · obtain ⟨row', h1, rfl⟩ := hcal i p row c3 hi
          rw [c2]
          rcases hR.rows p row' h1 with ⟨h2, h3⟩ | ⟨K, h2, h3⟩
          · exact .inl ⟨by simp [Zr, h2, ren], h3⟩
          · exact .inr ⟨K, h2, ZfQ ⟨hback, hFF⟩ h3⟩
      · rcases hcls i with ⟨c1, c2, c3, c4⟩ | ⟨c1, c2⟩ | ⟨p, c1, c2, c3⟩
        · rw [c3] at hK; exact Nat.lt_of_lt_of_le (hh.lt i K hK) hR.frame.size
        · rw [c1] at hK; cases hK
        · rw [c2] at hK; exact hR.lt p K hK
      · rcases hcls i with ⟨c1, c2, c3, c4⟩ | ⟨c1, c2⟩ | ⟨p, c1, c2, c3⟩
        · rw [c3] at hK; rw [c4] at hi; exact hh.own i row K hi ho hK
        · rw [c1] at hK; cases hK
        · obtain ⟨row', h1, rfl⟩ := hcal i p row c3 hi
          rw [c2] at hK
          rcases hR.own p row' K h1 ho hK with h2 | h2
          · exact hSb _ h2
          · right; omega
      · rcases hcls i with ⟨c1, c2, c3, c4⟩ | ⟨c1, c2⟩ | ⟨p, c1, c2, c3⟩
        · rw [c3] at hK
          rw [c4] at hi
          rcases hcls j with ⟨d1, d2, d3, d4⟩ | ⟨d1, d2⟩ | ⟨p', d1, d2, d3⟩
          · rw [d3] at hJ; exact hh.apart i j row K J hi hne ho hK hJ
          · rw [d1] at hJ; cases hJ
          · rw [d2] at hJ
            exact (hmix i p' K J c1 c2 hK hJ).1 row hi ho
        · rw [c1] at hK; cases hK
        · obtain ⟨row', h1, rfl⟩ := hcal i p row c3 hi
          rw [c2] at hK
          rcases hcls j with ⟨d1, d2, d3, d4⟩ | ⟨d1, d2⟩ | ⟨p', d1, d2, d3⟩
          · rw [d3] at hJ
            exact (hmix j p J K d1 d2 hJ hK).2 row' h1 ho
          · rw [d1] at hJ; cases hJ
          · rw [d2] at hJ
            refine hR.apart p p' row' K J h1 (fun e => hne ?_) ho hK hJ
            subst e
            rw [c1] at d1
            cases d1
            rfl
      · rcases hcls i with ⟨c1, c2, c3, c4⟩ | ⟨c1, c2⟩ | ⟨p, c1, c2, c3⟩
        · rw [c3] at hK; rw [c4] at hi
          have h0 := hh.ice i row K hi ho hK
          obtain ⟨o1, o2⟩ := hout i K c1 c2 hK
          show ρ'.F K.block = none
          cases hx : ρ'.F K.block with
          | none => rfl
          | some ob =>
            rcases hR.cold _ _ hx with h1 | h1 | h1
            · rw [hF0, hF02] at h1
              obtain ⟨o', h1⟩ := h1
              rw [h0] at h1; cases h1
            · exact absurd h1 o1
            · omega
        · rw [c1] at hK; cases hK
        · obtain ⟨row', h1, rfl⟩ := hcal i p row c3 hi
          rw [c2] at hK
          exact hR.ice p row' K h1 ho hK
      · rcases hR.cold b o hb with h1 | h1 | h1
        · rw [hF0, hF02] at h1
          obtain ⟨o', h1⟩ := h1
          exact hh.cold b o' h1
        · exact .inr (hSb b h1)
        · exact .inr (.inr (Nat.le_trans hh.frame.size h1))
  · simp at he
end
end Go.Sx
