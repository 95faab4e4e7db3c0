/-
  From what a law's arguments read as to the abstract machine's values and rows, and back. Conditions: none.
-/
import Derived.Test.YtlbfafbhflblcaaSxQ
import Derived.Deep.Slices
namespace Go.Sx
open Go Go.RowKit Go.WideShapes Go.ChangeShapes
set_option linter.unusedVariables false
def Zmz : BT → Value → Prop
  | .int k, v => ∃ n, v = .int k n ∧ (Lit.int k n).wf = true
  | .bool, v => ∃ b, v = .bool b
  | .str, v => ∃ s : ByteArray, v = .string s ∧ s.size ≤ maxLen
  | _, _ => False
def Z3 : List BT → List Value → Prop
  | [], vs => vs = []
  | b :: bs, vs => ∃ v r, vs = v :: r ∧ Zmz b v ∧ Z3 bs r
theorem Z3.length : ∀ {bs : List BT} {vs : List Value}, Z3 bs vs → vs.length = bs.length
  | [], vs, h => by simp only [Z3] at h; subst h; rfl
  | b :: bs, vs, h => by
    obtain ⟨v, r, rfl, _, h⟩ := h
    simp [h.length]
theorem Z3.append : ∀ {a b : List BT} {x y : List Value}, Z3 a x → Z3 b y → Z3 (a ++ b) (x ++ y)
  | [], b, x, y, h, k => by simp only [Z3] at h; subst h; exact k
  | c :: a, b, x, y, h, k => by
    obtain ⟨v, r, rfl, h1, h2⟩ := h
    exact ⟨v, r ++ y, rfl, h1, h2.append k⟩
theorem Z3.nil : Z3 [] [] := rfl
theorem ZeX {α : Type} (l : List α) (a b : Nat) : l.take (a + b) = l.take a ++ (l.drop a).take b := by
  induction a generalizing l with
  | zero => simp
  | succ a ih => cases l with
    | nil => simp
    | cons x l => simp [Nat.succ_add, ih]
section
variable {H : Type} {enc : TypeId × Value → H} {P : Program} {w : World} {base : Nat} {sp : Nat → Bool} {held : Bool}
theorem Zb9 {d : Nat} {t : TypeId} {l : List BT} (h : eqT P d t = some l) : P.cellsOf t = l.length := by
  have := Zd0 h
  unfold ZP at this
  unfold Program.cellsOf
  rw [this]; rfl
theorem Zdg : ∀ (d : Nat) (t : TypeId) (bs : List BT), eqT P d t = some bs → ∀ (fuel : Nat) (cs : List Value) (x : DataW H × List MemPlace), DataW.trod enc P w base sp held fuel t cs = some x → Z3 bs cs
  | 0, t, bs, h => by simp [eqT] at h
  | d + 1, t, bs, h => by
    intro fuel cs x hx
    have hc := Zb9 h
    have hraw : Zho P (eqT P d) t = some bs := by
      simp only [eqT] at h
      split at h
      · rename_i l hl
        split at h
        · cases h; exact hl
        · cases h
      · cases h
    unfold Zho at hraw
    split at hraw
    · rename_i hu
      cases hraw
      cases fuel with
      | zero => simp [DataW.trod] at hx
      | succ n =>
        unfold DataW.trod at hx
        rw [hu] at hx
        split at hx
        all_goals first
          | exact ⟨_, [], rfl, ⟨_, rfl⟩, rfl⟩
          | (rename_i hh; cases hh; done)
          | (rename_i hh _; cases hh; done)
          | (rename_i hh _ _; cases hh; done)
          | (cases hx; done)
    · rename_i k hu
      cases hraw
      obtain ⟨n, rfl, _, hw⟩ := DataW.trod_int hu hx
      exact ⟨_, [], rfl, ⟨n, rfl, hw⟩, rfl⟩
    · rename_i hu
      cases hraw
      cases fuel with
      | zero => simp [DataW.trod] at hx
      | succ n =>
        unfold DataW.trod at hx
        rw [hu] at hx
        split at hx
        all_goals first
          | (split at hx
             · rename_i hs; exact ⟨_, [], rfl, ⟨_, rfl, hs⟩, rfl⟩
             · cases hx
             done)
          | (rename_i hh; cases hh; done)
          | (rename_i hh _; cases hh; done)
          | (rename_i hh _ _; cases hh; done)
          | (cases hx; done)
    · rename_i fs hu
      split at hraw
      · cases hraw
      · obtain ⟨xs, n, _, _, hlen, hxl, hf⟩ := DataW.trod_struct hu hx
        have key : ∀ (l : List Field) (k off : Nat) (bs : List BT), (∀ (i : Nat) (f : Field), l[i]? = some f → fs[k + i]? = some f) → eqGo (eqT P d) off l = some bs → off + bs.length ≤ cs.length → Z3 bs ((cs.drop off).take bs.length) := by
          intro l
          induction l with
          | nil => intro k off bs _ h _; simp [eqGo] at h; subst h; simp [Z3]
          | cons f r ih =>
            intro k off bs hl h hle
            simp only [eqGo] at h
            split at h
            · rename_i x hx'
              split at h
              · rename_i hof
                simp only [Bool.and_eq_true, bne_iff_ne, ne_eq, decide_eq_true_eq] at hof
                cases hr : eqGo (eqT P d) (off + x.length) r with
                | none => rw [hr] at h; cases h
                | some y =>
                  rw [hr] at h
                  simp only [Option.map_some, Option.some.injEq] at h
                  subst h
                  simp only [List.length_append] at hle ⊢
                  rw [ZeX, List.drop_drop]
                  have hfi := hf k f (by simpa using hl 0 f rfl)
                  have hk : k < xs.length := by
                    rw [hxl]
                    have := hl 0 f rfl
                    rw [Nat.add_zero] at this
                    exact (Array.getElem?_eq_some_iff.1 this).1
                  rw [List.getElem?_eq_getElem hk, Zb9 hx', hof.1] at hfi
                  refine (Zdg d f.type x hx' n _ _ hfi).append (ih (k + 1) (off + x.length) y (fun i g hg => ?_) hr (by omega))
                  have := hl (i + 1) g (by simpa using hg)
                  rwa [show k + 1 + i = k + (i + 1) by omega]
              · cases h
            · cases h
        have := key fs.toList 0 0 bs (fun i f hi => by rw [Nat.zero_add]; simpa using hi) hraw (by rw [hlen, hc]; omega)
        rw [List.drop_zero, List.take_of_length_le (by rw [hlen, hc]; exact Nat.le_refl _)] at this
        exact this
    · rename_i n e hu
      cases he : eqT P d e with
      | none => rw [he] at hraw; cases hraw
      | some y =>
        rw [he] at hraw
        simp only [Option.map_some, Option.some.injEq] at hraw
        subst hraw
        obtain ⟨xs, m, _, _, hlen, hxl, hf⟩ := DataW.trod_array hu hx
        have hlenr : ∀ k : Nat, ((List.replicate k y).flatten).length = k * y.length := fun k => by simp
        have key : ∀ (k i : Nat), i + k = n → Z3 (List.replicate k y).flatten ((cs.drop (i * y.length)).take (k * y.length)) := by
          intro k
          induction k with
          | zero => intro i _; simp [Z3]
          | succ k ih =>
            intro i hi
            rw [List.replicate_succ, List.flatten_cons, Nat.succ_mul, Nat.add_comm (k * y.length), ZeX, List.drop_drop]
            have hfi := hf i (by omega)
            rw [List.getElem?_eq_getElem (by omega), Zb9 he] at hfi
            refine (Zdg d e y he m _ _ hfi).append ?_
            have := ih (i + 1) (by omega)
            rwa [Nat.succ_mul] at this
        have := key n 0 (by omega)
        rw [Nat.zero_mul, List.drop_zero, List.take_of_length_le (by rw [hlen, hc, hlenr]; exact Nat.le_refl _)] at this
        exact this
    · cases hraw
theorem Zd5 {a : Addr} (h : a.spot = none) (n : Nat) : a.add n = ⟨a.block, a.off + n, none⟩ := by
  obtain ⟨b, o, s⟩ := a
  simp only at h
  subst h
  unfold Addr.add
  split
  · rename_i e; subst e; rfl
  · rfl
theorem ZkX {k : IntKind} : ∀ {n : Nat} {cs : List Value}, Z3 (List.replicate n (.int k)) cs → ∃ l : List Int, cs = l.map (Value.int k) ∧ l.length = n ∧ ∀ x ∈ l, (Lit.int k x).wf = true
  | 0, cs, h => ⟨[], by simpa [Z3] using h, rfl, by simp⟩
  | n + 1, cs, h => by
    rw [List.replicate_succ] at h
    obtain ⟨v, r, rfl, ⟨x, rfl, hx⟩, hr⟩ := h
    obtain ⟨l, rfl, hl, hw⟩ := ZkX hr
    refine ⟨x :: l, rfl, by simp [hl], fun y hy => ?_⟩
    rcases List.mem_cons.1 hy with rfl | hy
    · exact hx
    · exact hw y hy
structure RowIn (w : World) (p : Row × Option Loc) : Prop where
  live : ∀ L, p.2 = some L → p.1.own = false ∧ (∀ ρ, RowR ρ p.1 L w) ∧ L.block < w.heap.size
  dead : p.2 = none → p.1 = ⟨true, .unk⟩
  flat : Zw p.1.c = false
def ZkY (w : World) (rows : List (Row × Option Loc)) : RM := ⟨fun i => (rows[i]?).map (·.2), fun b => w.heap[b]?, fun b => ∃ o, w.heap[b]? = some o⟩
theorem Zct (w : World) (rows : List (Row × Option Loc)) (i : Nat) : ZkY w rows i = (rows[i]?).map (·.2) := rfl
theorem Zn9 {rows : List (Row × Option Loc)} (h : ∀ p ∈ rows, RowIn w p) : HR w [] (ZkY w rows) (rows.map (·.1)) w := by
  have own : ∀ (i : Nat) (row : Row) (L : Loc), (rows.map (·.1))[i]? = some row → row.own = true → ZkY w rows i = some (some L) → False := by
    intro i row L hi ho hL
    rw [List.getElem?_map] at hi
    rw [Zct] at hL
    cases hp : rows[i]? with
    | none => rw [hp] at hi; cases hi
    | some p =>
      rw [hp] at hi hL
      simp only [Option.map_some, Option.some.injEq] at hi hL
      subst hi
      have := ((h p (List.mem_of_getElem? hp)).live L hL).1
      rw [this] at ho
      cases ho
  refine ⟨fun i hi => ?_, fun i row hi => ?_, fun i L hL => ?_, fun i row L hi ho hL => (own i row L hi ho hL).elim, fun i j ri Li Lj hi _ ho hL _ => (own i ri Li hi ho hL).elim, Fr.refl _ _, fun b o hb => hb, fun i row L hi ho hL => (own i row L hi ho hL).elim, fun b o hb => .inl ⟨o, hb⟩⟩
  · rw [List.getElem?_map, Option.map_eq_none_iff] at hi
    rw [Zct]
    rw [hi]; rfl
  · rw [List.getElem?_map] at hi
    cases hp : rows[i]? with
    | none => rw [hp] at hi; cases hi
    | some p =>
      rw [hp] at hi
      simp only [Option.map_some, Option.some.injEq] at hi
      subst hi
      have hr := h p (List.mem_of_getElem? hp)
      cases hl : p.2 with
      | none =>
        left
        rw [hr.dead hl]
        rw [Zct]
        rw [hp]
        simp [hl]
      | some L =>
        right
        refine ⟨L, ?_, (hr.live L hl).2.1 _⟩
        rw [Zct]
        rw [hp]
        simp [hl]
  · rw [Zct] at hL
    cases hp : rows[i]? with
    | none => rw [hp] at hL; cases hL
    | some p =>
      rw [hp] at hL
      simp only [Option.map_some, Option.some.injEq] at hL
      exact ((h p (List.mem_of_getElem? hp)).live L hL).2.2
theorem Zlz {tab : FuncId → Option SFn} (ht : ZgV P tab) {k : Nat} {f : FuncId} {args : List EV} {vs : List Value} {rows : List (Row × Option Loc)} (hr : ∀ p ∈ rows, RowIn w p) {h' : List Row} {mv : List Nat}
    (he : evF tab k f args (rows.map (·.1)) = some (.bool true, h', mv)) (hv : VRs (ZkY w rows) args vs) : Calls P f vs.toArray w fun e w' => e = .returned (.bool true) ∧ Below w.heap.size w w' :=
  (Zn8 ht he w [] (ZkY w rows) vs (HRT.no (Zn9 hr) fun i row hi => by
    rw [List.getElem?_map, Option.map_eq_some_iff] at hi
    obtain ⟨p, hp, rfl⟩ := hi
    exact (hr p (List.mem_of_getElem? hp)).flat) (fun i hi => by
    rw [List.length_map] at hi
    rw [Zct]
    rw [List.getElem?_eq_getElem hi]
    simp) hv).mono fun e w' ⟨v, ρ', h1, h2, h3, _⟩ => by
    subst h1
    rw [Za8 h2]
    exact ⟨rfl, h3.1.frame.below⟩
theorem Zm7 {t e : TypeId} {v : Value} {d : DataW H} {p : List MemPlace} {z : Nat} {k : IntKind} (ht : P.underlying t = some (.slice e)) (hb : eqT P 8 e = some (List.replicate z (.int k))) (hz : 0 < z) (hsp : ∀ b, sp b = true) (hv1 : v.cells.toList = [v]) (h : DataW.Trod enc P w base sp held t v d p) :
    v = .slice none 0 0 ∨ (∃ a, v = .slice (some a) 0 0) ∨ ∃ (l : List Int) (len : Nat) (L : Loc), l.length = len * z ∧ len ≤ maxLen ∧ (∀ x ∈ l, (Lit.int k x).wf = true) ∧ RowIn w (⟨false, .ints k l⟩, some L) ∧ ∀ (ρ : RM) (r : Nat), ρ r = some (some L) → VR ρ (.slice r 0 len z) v := by
  obtain ⟨fuel, hn⟩ := h
  rw [hv1] at hn
  rcases Go.Deep.open_slice ht hn with ⟨h0, _⟩ | ⟨a, len, cap, m, n, D, Pl, h0, hba, hl, hm, hmm, _, hx⟩
  · left; simpa using h0
  · right
    simp only [List.cons.injEq, and_true] at h0
    subst h0
    rw [hsp, if_pos rfl] at hmm
    subst hmm
    have hc := Zb9 hb
    rw [List.length_replicate] at hc
    by_cases hcap : m = 0
    · left
      subst hcap
      obtain rfl : len = 0 := by omega
      exact ⟨a, rfl⟩
    · right
      have hcells : ∀ i, i < m → ∃ l : List Int, l.length = z ∧ (∀ x ∈ l, (Lit.int k x).wf = true) ∧ ∀ j, j < z → w.cell? ((a.add (i * z)).add j) = some (.int k (l.getD j 0)) := by
        intro i hi
        obtain ⟨cs', h1, h2⟩ := hx i hi
        rw [hc] at h1
        obtain ⟨_, hl', hcc⟩ := World.cells?_some h1
        obtain ⟨l, rfl, h3, h4⟩ := ZkX (Zdg 8 e _ hb n _ _ h2)
        refine ⟨l, h3, h4, fun j hj => ?_⟩
        rw [hcc j hj]
        simp [h3, hj]
      have hspot : a.spot = none := by
        obtain ⟨l, _, _, h⟩ := hcells 0 (by omega)
        have := World.cell?_spot (h 0 hz)
        simpa [Addr.add] using this
      have hblock : a.block < w.heap.size := by
        obtain ⟨cs', h1, _⟩ := hx 0 (by omega)
        rw [hc] at h1
        have := World.cells?_block h1 hz
        simpa [Addr.add] using this
      obtain ⟨V, hV⟩ := Go.Deep.choose_lt (α := List Int) (p := fun i l => l.length = z ∧ (∀ x ∈ l, (Lit.int k x).wf = true) ∧ ∀ j, j < z → w.cell? ((a.add (i * z)).add j) = some (.int k (l.getD j 0))) (n := m) hcells
      have hflat : ∀ q, q ≤ m → ((List.range q).flatMap V).length = q * z ∧ (∀ x ∈ (List.range q).flatMap V, (Lit.int k x).wf = true) ∧ ∀ j, j < q * z → w.cell? ⟨a.block, a.off + j, none⟩ = some (.int k (((List.range q).flatMap V).getD j 0)) := by
        intro q
        induction q with
        | zero => intro _; simp
        | succ q ih =>
          intro hq
          obtain ⟨i1, i2, i3⟩ := ih (by omega)
          obtain ⟨v1, v2, v3⟩ := hV q (by omega)
          rw [List.range_succ, List.flatMap_append, List.flatMap_singleton]
          refine ⟨by rw [List.length_append, i1, v1, Nat.succ_mul], fun x hx => ?_, fun j hj => ?_⟩
          · rcases List.mem_append.1 hx with hx | hx
            · exact i2 x hx
            · exact v2 x hx
          · by_cases hlt : j < q * z
            · rw [i3 j hlt]
              simp [List.getElem?_append_left (show j < ((List.range q).flatMap V).length by rw [i1]; exact hlt)]
            · rw [Nat.succ_mul] at hj
              have := v3 (j - q * z) (by omega)
              have e1 : (a.add (q * z)).add (j - q * z) = ⟨a.block, a.off + j, none⟩ := by
                rw [Zd5 hspot, Zd5 (by rfl)]
                simp only [Addr.mk.injEq, true_and, and_true]
                omega
              rw [e1] at this
              rw [this]
              simp [List.getElem?_append_right (show ((List.range q).flatMap V).length ≤ j by rw [i1]; omega), i1]
      obtain ⟨f1, f2, f3⟩ := hflat len hl
      refine ⟨(List.range len).flatMap V, len, ⟨a.block, a.off, m * z, fun _ => 0⟩, f1, by omega, f2, ⟨fun L hL => ?_, fun hL => (by cases hL), rfl⟩, fun ρ r hr => ?_⟩
      · cases hL
        refine ⟨rfl, fun ρ => ⟨?_, ?_⟩, hblock⟩
        · simp only [clen]
          rw [f1]
          exact Nat.mul_le_mul_right z hl
        · simp only [Bool.false_eq_true, if_false]
          refine ⟨rfl, fun j x hj => ?_⟩
          simp only [cget, Option.map_eq_some_iff] at hj
          obtain ⟨y, hy, rfl⟩ := hj
          have hjl : j < ((List.range len).flatMap V).length := (List.getElem?_eq_some_iff.1 hy).1
          refine ⟨.int k y, ?_, rfl, by simp [VR]⟩
          show w.cell? ⟨a.block, a.off + j, none⟩ = _
          rw [f3 j (by omega)]
          have : ((List.range len).flatMap V).getD j 0 = y := by simp [hy]
          rw [this]
      · simp only [VR]
        refine ⟨a, m, rfl, hl, some ⟨a.block, a.off, m * z, fun _ => 0⟩, hr, fun L hL => ?_⟩
        cases hL
        refine ⟨fun _ => ?_, by simp⟩
        obtain ⟨ab, ao, as⟩ := a
        simp only at hspot
        subst hspot
        simp
theorem Zgn {W W' : World} {sp' : Nat → Bool} (hl : laidOutB P = true) (hb : Below W.heap.size W W') : ∀ {ts : List TypeId} {vs : List Value} {ds : List (DataW H)} {ps : List MemPlace}, (∀ t ∈ ts, P.readableRec t = true ∧ t < P.types.size) → DataW.TrodAll enc P W 0 (fun _ => true) true ts vs ds ps → (∀ p ∈ ps, sp' p.block = true) → DataW.TrodAll enc P W' 0 sp' true ts vs ds ps
  | [], [], [], ps, _, h, _ => h
  | t :: ts, v :: vs, d :: ds, ps, hT, ⟨p, q, h1, h2, e⟩, hs => by
    subst e
    refine ⟨p, q, WideElems.Trod_stays hl (hT t (by simp)).1 (hT t (by simp)).2 h1 (fun x hx => ?_) (fun x hx => hs x (List.mem_append_left _ hx)), Zgn hl hb (fun t ht => hT t (by simp [ht])) h2 (fun x hx => hs x (List.mem_append_right _ hx)), rfl⟩
    refine hb.same ?_
    obtain ⟨n, hn⟩ := h1
    exact DataW.trod_lt n _ _ _ hn x hx
  | [], [], _ :: _, _, _, h, _ => h.elim
  | [], _ :: _, _, _, _, h, _ => by simp [DataW.TrodAll] at h
  | _ :: _, [], _, _, _, h, _ => by simp [DataW.TrodAll] at h
  | _ :: _, _ :: _, [], _, _, h, _ => by simp [DataW.TrodAll] at h
end
end Go.Sx
