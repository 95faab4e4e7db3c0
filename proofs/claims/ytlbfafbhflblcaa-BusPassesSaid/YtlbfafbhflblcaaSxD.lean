/-
  What a step of memory does to the relation between the abstract heap and the world. Conditions: none.
-/
import Derived.Test.YtlbfafbhflblcaaSxC
namespace Go.Sx
open Go
set_option linter.unusedVariables false
structure Chg (w w' : World) (b : Nat) : Prop where
  os : w'.os = w.os
  tape : w'.tape = w.tape
  output : w'.output = w.output
  size : w.heap.size ≤ w'.heap.size
  block : ∀ k, k < w.heap.size → k ≠ b → w'.heap[k]? = w.heap[k]?
def updM (ρ : RM) (i : Nat) (l : Option Loc) : RM := ⟨fun k => if k = i then some l else ρ k, ρ.F, ρ.F0⟩
theorem ZfM {ρ : RM} {r : Nat} {l : Option Loc} (h : ρ r = some l) : updM ρ r l = ρ := by
  cases ρ with
  | mk f F F0 =>
    show RM.mk _ F F0 = RM.mk f F F0
    congr 1
    funext k
    split
    · rename_i e
      rw [e]
      exact h.symm
    · rfl
theorem ZJ (ρ : RM) (i : Nat) (l : Option Loc) : updM ρ i l i = some l := by simp [updM]
theorem ZA {ρ : RM} {i k : Nat} {l : Option Loc} (h : k ≠ i) : updM ρ i l k = ρ k := by simp [updM, h]
theorem ZbD {ρ : RM} {i : Nat} {l : Option Loc} (h : ρ i = none ∨ ρ i = some l ∨ l = none) : le ρ (updM ρ i l) := by
  refine ⟨fun r x hr => ?_, Zae _, rfl⟩
  by_cases e : r = i
  · subst e
    rw [ZJ]
    rcases h with h | h | h
    · rw [h] at hr; cases hr
    · rw [h] at hr; exact .inl hr
    · subst h; exact .inr rfl
  · rw [ZA e]; exact .inl hr
theorem Fr.chg {w0 w w' : World} {S : List Nat} (h : Fr w0 S w) {b : Nat} (c : Chg w w' b) (hb : b ∈ S ∨ w0.heap.size ≤ b) : Fr w0 S w' :=
  ⟨c.os.trans h.os, c.tape.trans h.tape, c.output.trans h.output, Nat.le_trans h.size c.size, fun k hk hn => by
    have hs := h.size
    rw [c.block k (by omega) (by rintro rfl; rcases hb with hb | hb <;> first | exact hn hb | omega)]
    exact h.block k hk hn⟩
theorem HR.put {w0 w w' : World} {S : List Nat} {ρ : RM} {h : List Row} (hh : HR w0 S ρ h w) {i : Nat} {old row : Row} {L : Loc} (hi : h[i]? = some old) (hc : Chg w w' L.block)
    (hρ : ρ i = none ∨ ρ i = some (some L)) (hown : row.own = true) (hrow : RowR (updM ρ i (some L)) row L w') (hlt : L.block < w'.heap.size) (hS : L.block ∈ S ∨ w0.heap.size ≤ L.block)
    (hap : ∀ k K, k ≠ i → ρ k = some (some K) → K.block ≠ L.block) (hice : ρ.F L.block = none) : HR w0 S (updM ρ i (some L)) (h.set i row) w' := by
  have hle : le ρ (updM ρ i (some L)) := ZbD (hρ.imp id .inl)
  have hil : i < h.length := (List.getElem?_eq_some_iff.1 hi).1
  refine ⟨fun k hk => ?_, fun k r hk => ?_, fun k K hK => ?_, fun k r K hk hr hK => ?_, fun k j r K J hk hne hr hK hJ => ?_, hh.frame.chg hc hS, fun b o hb => ?_, fun k r K hk hr hK => ?_, hh.cold⟩
  · have : k ≠ i := by rintro rfl; simp [hil] at hk
    rw [ZA this]
    exact hh.out k (by simpa [List.getElem?_set, Ne.symm this] using hk)
  · by_cases e : k = i
    · subst e
      simp [hil] at hk
      subst hk
      exact .inr ⟨L, ZJ _ _ _, hrow⟩
    · rw [List.getElem?_set_ne (Ne.symm e)] at hk
      rcases hh.rows k r hk with ⟨h1, h2⟩ | ⟨K, h1, h2⟩
      · exact .inl ⟨h1, by rw [ZA e]; exact h2⟩
      · exact .inr ⟨K, by rw [ZA e]; exact h1, (h2.same (hc.block _ (hh.lt k K h1) (hap k K e h1))).mono hle⟩
  · by_cases e : k = i
    · subst e
      rw [ZJ] at hK
      cases hK
      exact hlt
    · rw [ZA e] at hK
      exact Nat.lt_of_lt_of_le (hh.lt k K hK) hc.size
  · by_cases e : k = i
    · subst e
      rw [ZJ] at hK
      cases hK
      exact hS
    · rw [ZA e] at hK
      rw [List.getElem?_set_ne (Ne.symm e)] at hk
      exact hh.own k r K hk hr hK
  · by_cases e : k = i
    · subst e
      rw [ZJ] at hK
      cases hK
      rw [ZA (Ne.symm hne)] at hJ
      exact (hap j J (Ne.symm hne) hJ).symm
    · rw [ZA e] at hK
      rw [List.getElem?_set_ne (Ne.symm e)] at hk
      by_cases e' : j = i
      · subst e'
        rw [ZJ] at hJ
        cases hJ
        exact hap k K e hK
      · rw [ZA e'] at hJ
        exact hh.apart k j r K J hk hne hr hK hJ
  · have h1 := hh.froz b o hb
    have h2 : b < w.heap.size := by
      rcases Nat.lt_or_ge b w.heap.size with h | h
      · exact h
      · rw [Array.getElem?_eq_none h] at h1; cases h1
    rw [hc.block b h2 (fun e => by rw [e] at hb; rw [show (updM ρ i (some L)).F L.block = ρ.F L.block from rfl, hice] at hb; cases hb)]
    exact h1
  · by_cases e : k = i
    · subst e
      rw [ZJ] at hK
      cases hK
      exact hice
    · rw [ZA e] at hK
      rw [List.getElem?_set_ne (Ne.symm e)] at hk
      exact hh.ice k r K hk hr hK
theorem HR.froz_lt {w0 w : World} {S : List Nat} {ρ : RM} {h : List Row} (hh : HR w0 S ρ h w) {b : Nat} {o : Obj} (hb : ρ.F b = some o) : b < w.heap.size := by
  have h1 := hh.froz b o hb
  rcases Nat.lt_or_ge b w.heap.size with h | h
  · exact h
  · rw [Array.getElem?_eq_none h] at h1; cases h1
theorem HR.fcell {w0 w : World} {S : List Nat} {ρ : RM} {h : List Row} (hh : HR w0 S ρ h w) {b j : Nat} {v : Value} (hv : Sx.fcell ρ.F b j = some v) : w.cell? ⟨b, j, none⟩ = some v := by
  unfold Sx.fcell at hv
  cases hb : ρ.F b with
  | none => rw [hb] at hv; cases hv
  | some o =>
    rw [hb] at hv
    have h1 := hh.froz b o hb
    cases o with
    | cells c t f => simpa [World.cell?, h1] using hv
    | _ => cases hv
theorem HR.cont {w0 w : World} {S : List Nat} {ρ : RM} {h : List Row} (hh : HR w0 S ρ h w) {c : EV} {b base : Nat} (hc : Zcv ρ.F c b base) : CR ρ c (fun j => w.cell? ⟨b, base + j, none⟩) :=
  let ⟨h1, h2⟩ := ZlD hc
  ⟨Zeo h1, fun j e hj => let ⟨v, h3, h4, h5⟩ := h2 j e hj; ⟨v, hh.fcell h3, h4, h5⟩⟩
theorem HR.ice_new {w0 w : World} {S : List Nat} {ρ : RM} {h : List Row} (hh : HR w0 S ρ h w) {b : Nat} (hb : w.heap.size ≤ b) : ρ.F b = none := by
  cases h1 : ρ.F b with
  | none => rfl
  | some o =>
    have := hh.froz b o h1
    rw [Array.getElem?_eq_none hb] at this
    cases this
theorem HR.kill {w0 w : World} {S : List Nat} {ρ : RM} {h : List Row} (hh : HR w0 S ρ h w) {i : Nat} {old : Row} (hi : h[i]? = some old) : HR w0 S (updM ρ i none) (h.set i ⟨true, .unk⟩) w := by
  have hle : le ρ (updM ρ i none) := ZbD (.inr (.inr rfl))
  have hil : i < h.length := (List.getElem?_eq_some_iff.1 hi).1
  refine ⟨fun k hk => ?_, fun k r hk => ?_, fun k K hK => ?_, fun k r K hk hr hK => ?_, fun k j r K J hk hne hr hK hJ => ?_, hh.frame, hh.froz, fun k r K hk hr hK => ?_, hh.cold⟩
  · have : k ≠ i := by rintro rfl; simp [hil] at hk
    rw [ZA this]
    exact hh.out k (by simpa [List.getElem?_set, Ne.symm this] using hk)
  · by_cases e : k = i
    · subst e
      simp [hil] at hk
      subst hk
      exact .inl ⟨rfl, by simp [ZJ]⟩
    · rw [List.getElem?_set_ne (Ne.symm e)] at hk
      rcases hh.rows k r hk with ⟨h1, h2⟩ | ⟨K, h1, h2⟩
      · exact .inl ⟨h1, by rw [ZA e]; exact h2⟩
      · exact .inr ⟨K, by rw [ZA e]; exact h1, h2.mono hle⟩
  · by_cases e : k = i
    · subst e; rw [ZJ] at hK; cases hK
    · rw [ZA e] at hK; exact hh.lt k K hK
  · by_cases e : k = i
    · subst e; rw [ZJ] at hK; cases hK
    · rw [ZA e] at hK
      rw [List.getElem?_set_ne (Ne.symm e)] at hk
      exact hh.own k r K hk hr hK
  · by_cases e : k = i
    · subst e; rw [ZJ] at hK; cases hK
    · by_cases e' : j = i
      · subst e'; rw [ZJ] at hJ; cases hJ
      · rw [ZA e] at hK
        rw [ZA e'] at hJ
        rw [List.getElem?_set_ne (Ne.symm e)] at hk
        exact hh.apart k j r K J hk hne hr hK hJ
  · by_cases e : k = i
    · subst e; rw [ZJ] at hK; cases hK
    · rw [ZA e] at hK
      rw [List.getElem?_set_ne (Ne.symm e)] at hk
      exact hh.ice k r K hk hr hK
theorem Fr.drew {w0 w : World} {S : List Nat} (h : Fr w0 S w) (n : Nat) : Fr w0 S { w with drawn := n } := ⟨h.os, h.tape, h.output, h.size, h.block⟩
theorem HR.drew {w0 w : World} {S : List Nat} {ρ : RM} {h : List Row} (hh : HR w0 S ρ h w) (n : Nat) : HR w0 S ρ h { w with drawn := n } :=
  ⟨hh.out, fun i r hi => (hh.rows i r hi).imp id fun ⟨L, h1, h2⟩ => ⟨L, h1, h2.same rfl⟩, hh.lt, hh.own, hh.apart, hh.frame.drew n, hh.froz, hh.ice, hh.cold⟩
theorem HR.lay {w0 w w1 : World} {S : List Nat} {ρ : RM} {h : List Row} (hh : HR w0 S ρ h w) {i : Nat} (hf : fresh h i = true) {c : EV} {cs : Array Value} {t : TypeId} {room : Nat}
    (h1 : w1.heap = w.heap) (h2 : w1.os = w.os) (h3 : w1.tape = w.tape) (h4 : w1.output = w.output)
    (hlen : clen c ≤ room) (hroom : room ≤ cs.size) (hc : CR ρ c (fun j => cs[j]?)) :
    ρ i = none ∧ HR w0 S (updM ρ i (some ⟨w.heap.size, 0, room, fun _ => 0⟩)) (h.set i ⟨true, c⟩) (w1.alloc (.cells cs t)) := by
  unfold fresh at hf
  split at hf
  · rename_i hi
    have hn : ρ i = none := by
      rcases hh.rows i _ hi with ⟨_, h2⟩ | ⟨L, _, h2⟩
      · simpa using h2
      · have := h2.read.1
        simp [isAgg, Zw] at this
    have hsz : (w1.alloc (.cells cs t)).heap = w.heap.push (.cells cs t) := by simp [World.alloc, h1]
    refine ⟨hn, hh.put (L := ⟨w.heap.size, 0, room, fun _ => 0⟩) hi ⟨h2, h3, h4, by rw [hsz]; simp, fun k hk _ => ?_⟩ (.inl hn) rfl ?_ ?_ (.inr hh.frame.size) (fun k K hk hK => ?_) (hh.ice_new (Nat.le_refl _))⟩
    · rw [hsz, Array.getElem?_push, if_neg (by omega)]
    · unfold RowR
      rw [if_pos rfl]
      exact ⟨hlen, rfl, cs, t, by rw [hsz]; simp, hroom, ZmK (ZbD (.inl hn)) hc⟩
    · rw [hsz]; simp
    · have := hh.lt k K hK
      simp only
      omega
  · simp at hf
theorem HR.write {w0 w : World} {S : List Nat} {ρ : RM} {h : List Row} (hh : HR w0 S ρ h w) {r : Nat} {row : Row} {L : Loc} (hi : h[r]? = some row) (hown : row.own = true) (hL : ρ r = some (some L))
    {cs : Array Value} {t : TypeId} (hg : w.heap[L.block]? = some (.cells cs t (0, 0))) (hb : L.base = 0) (hroom : L.room ≤ cs.size) {o : Nat} {x c' : EV} {vs : List Value} (hcr : CR ρ row.c (fun j => cs[j]?))
    (hput : cput row.c o x = some c') (hlen : vs.length = clen x) (hfit : clen row.c ≤ L.room) (hvs : ∀ v ∈ vs, v.oneCell' = true) (hx : ∀ (j : Nat) (e : EV), (cells x)[j]? = some e → ∃ u, vs[j]? = some u ∧ VR ρ e u) :
    HR w0 S ρ (h.set r ⟨true, c'⟩) (w.setRow L.block (cs.toList.take o ++ vs ++ cs.toList.drop (o + vs.length)).toArray) := by
  have hρ : updM ρ r (some L) = ρ := ZfM hL
  obtain ⟨_, ha', hc', hle, _, hget⟩ := ZaP hput
  have hsz : (w.setRow L.block (cs.toList.take o ++ vs ++ cs.toList.drop (o + vs.length)).toArray).heap[L.block]? = some (.cells (cs.toList.take o ++ vs ++ cs.toList.drop (o + vs.length)).toArray t (0, 0)) := setRow_heap _ _ _ _ _ _ hg
  have hz : (w.setRow L.block (cs.toList.take o ++ vs ++ cs.toList.drop (o + vs.length)).toArray).heap.size = w.heap.size := by simp [World.setRow]
  have hnew : (cs.toList.take o ++ vs ++ cs.toList.drop (o + vs.length)).length = cs.size := by simp; omega
  have hR := hh.put (L := L) (row := ⟨true, c'⟩) (w' := w.setRow L.block (cs.toList.take o ++ vs ++ cs.toList.drop (o + vs.length)).toArray) hi
    ⟨rfl, rfl, rfl, by rw [hz]; exact Nat.le_refl _, fun k hk hne => setRow_other _ _ _ _ hne⟩ (.inr hL) rfl ?_ (by rw [hz]; exact hh.lt r L hL) (hh.own r row L hi hown hL) (fun k K hk hK => (hh.apart r k row L K hi (Ne.symm hk) hown hL hK).symm) (hh.ice r row L hi hown hL)
  · rw [hρ] at hR; exact hR
  · rw [hρ]
    unfold RowR
    rw [if_pos rfl]
    refine ⟨by rw [hc']; exact hfit, hb, _, t, hsz, by simp only [List.size_toArray]; rw [hnew]; exact hroom, Zeo ha', fun j e hj => ?_⟩
    rw [hget j] at hj
    have hp := Zdq cs.toList vs o j (by rw [hlen]; simp; omega)
    simp only [List.getElem?_toArray, List.append_assoc]
    rw [hp]
    by_cases hc : o ≤ j ∧ j < o + clen x
    · rw [if_pos hc] at hj
      rw [if_pos (by rw [hlen]; exact hc)]
      obtain ⟨u, hu, hr⟩ := hx _ e hj
      exact ⟨u, hu, hvs u (List.mem_of_getElem? hu), hr⟩
    · rw [if_neg hc] at hj
      rw [if_neg (by rw [hlen]; exact hc)]
      obtain ⟨u, hu, h2⟩ := hcr.2 j e hj
      exact ⟨u, by simpa using hu, h2⟩
end Go.Sx
