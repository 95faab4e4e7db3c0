/-
  How the abstract machine's values, rows and frames stand to the model's. Conditions: none.
-/
import Derived.Test.YthofmhnbncopjaaSxB
import Derived.ArgAppend
namespace Go.Sx
open Go
set_option linter.unusedVariables false

/-- Where a row lies: the block, its first cell, how many cells there are. -/
structure Loc where
  block : Nat
  base : Nat
  room : Nat
/-- 'none': no row has this number yet; 'some none': it is no more. -/
structure RM where
  at_ : Nat → Option (Option Loc)
  /-- blocks that stay as they are -/
  F : Nat → Option Obj
  /-- and which did so at the entry -/
  F0 : Nat → Prop
instance : CoeFun RM (fun _ => Nat → Option (Option Loc)) := ⟨RM.at_⟩
def leF (A B : Nat → Option Obj) : Prop := ∀ b o, A b = some o → B b = some o
def le (ρ ρ' : RM) : Prop := (∀ r l, ρ r = some l → ρ' r = some l ∨ ρ' r = some none) ∧ leF ρ.F ρ'.F ∧ ρ'.F0 = ρ.F0
/-- le, without what was frozen at the entry. -/
def le0 (ρ ρ' : RM) : Prop := (∀ r l, ρ r = some l → ρ' r = some l ∨ ρ' r = some none) ∧ leF ρ.F ρ'.F
def subF (A B : Nat → Option Obj) : Prop := ∀ b o, A b = some o → B b = some o
theorem leF.sub {A B : Nat → Option Obj} (h : leF A B) : subF A B := h
theorem leF_refl (A : Nat → Option Obj) : leF A A := fun _ _ h => h
def RM.none (F : Nat → Option Obj) : RM := ⟨fun _ => .none, F, fun b => ∃ o, F b = some o⟩

def CK.val : CK → Int → Value
  | .int k, n => .int k n
  | .bool, n => .bool (!decide (n = 0))
  | .any, _ => .bool false
/-- A cell of a mixed list. -/
def CK.is (k : CK) (n : Int) (v : Value) : Prop := k = .any ∨ v = k.val n
def mixIs (ks : List CK) (l : List Int) (cs : List Value) : Prop := cs.length = l.length ∧ (∀ c ∈ cs, c.oneCell' = true) ∧ ∀ (j : Nat) (n : Int) (c : Value), l[j]? = some n → cs[j]? = some c → (kindAt ks j).is n c
/-! ### Blocks that stay as they are -/
def fcell (F : Nat → Option Obj) (b j : Nat) : Option Value := match F b with
  | some (.cells c _ _) => c[j]?
  | _ => none
theorem fcell_le {A B : Nat → Option Obj} (h : subF A B) {b j : Nat} {v : Value} (hv : fcell A b j = some v) : fcell B b j = some v := by
  unfold fcell at hv ⊢
  split at hv
  · rename_i c _ _ e
    rw [h _ _ e]
    exact hv
  · cases hv
def flatR (F : Nat → Option Obj) (c : EV) (b base : Nat) : Prop := match c with
  | .ints k l => ∀ (j : Nat) (n : Int), l[j]? = some n → fcell F b (base + j) = some (.int k n)
  | .mix ks l => ∀ (j : Nat) (n : Int), l[j]? = some n → ∃ u, fcell F b (base + j) = some u ∧ u.oneCell' = true ∧ (kindAt ks j).is n u
  | _ => False
theorem flatR_le {A B : Nat → Option Obj} (h : subF A B) {c : EV} {b base : Nat} (hc : flatR A c b base) : flatR B c b base := by
  cases c <;> simp only [flatR] at hc ⊢
  · exact fun j n hn => fcell_le h (hc j n hn)
  · exact fun j n hn => let ⟨u, h1, h2⟩ := hc j n hn; ⟨u, fcell_le h h1, h2⟩
def nilSl (v : Value) : Prop := ∃ q : Option Addr, v = .slice q 0 0
def roFlat (F : Nat → Option Obj) (c : EV) (n z : Nat) (v : Value) : Prop :=
  (nilSl v ∧ n = 0) ∨ ∃ b base cap, v = .slice (some ⟨b, base, none⟩) n cap ∧ n ≤ cap ∧ n * z ≤ clen c ∧ flatR F c b base
theorem roFlat_le {A B : Nat → Option Obj} (h : subF A B) {c : EV} {n z : Nat} {v : Value} (hc : roFlat A c n z v) : roFlat B c n z v :=
  hc.imp id fun ⟨b, base, cap, h1, h2, h3, h4⟩ => ⟨b, base, cap, h1, h2, h3, flatR_le h h4⟩
def NK.is0 (F : Nat → Option Obj) : NK → NC → Value → Prop
  | .c k, x, v => k.is x.i v
  | .pt _ _ _, _, _ => False
  | k, x, v => roFlat F (k.cont x.l) (many k.sz x.l) k.sz v
theorem NK.is0_le {A B : Nat → Option Obj} (h : subF A B) {k : NK} {x : NC} {v : Value} (hc : k.is0 A x v) : k.is0 B x v := by
  cases k <;> simp only [NK.is0] at hc ⊢
  · exact hc
  · exact roFlat_le h hc
  · exact roFlat_le h hc
/-- A record that stays as it is. -/
def ptR (F : Nat → Option Obj) (a z b : Nat) (l : List Int) (bl base : Nat) : Prop := ∀ (j : Nat) (x : NC), (ptL a b l)[j]? = some x → ∃ u, fcell F bl (base + j) = some u ∧ u.oneCell' = true ∧ (kindN (ptK a z b) j).is0 F x u
def NK.is (F : Nat → Option Obj) : NK → NC → Value → Prop
  | .c k, x, v => k.is x.i v
  | .pt a z b, x, v => (x.i = 0 ∧ v = .pointer none) ∨ (¬ x.i = 0 ∧ ∃ bl base, v = .pointer (some ⟨bl, base, none⟩) ∧ ptR F a z b x.l bl base)
  | k, x, v => roFlat F (k.cont x.l) (many k.sz x.l) k.sz v
theorem ptK_kind (a z b j : Nat) : kindN (ptK a z b) j = .c (.int .i64) ∨ kindN (ptK a z b) j = .si .i64 z := by
  have hl : (ptK a z b).length = a + (b + 1) := by simp [ptK]
  have hj : j % (ptK a z b).length < (ptK a z b).length := Nat.mod_lt _ (by omega)
  have hm : kindN (ptK a z b) j ∈ ptK a z b := by
    unfold kindN
    rw [List.getD_eq_getElem?_getD, List.getElem?_eq_getElem hj]
    exact List.getElem_mem _
  simp only [ptK, List.mem_append, List.mem_cons, List.mem_replicate] at hm
  rcases hm with ⟨_, h⟩ | h | ⟨_, h⟩
  · exact .inl h
  · exact .inr h
  · exact .inl h
theorem ptK_is (F : Nat → Option Obj) (a z b j : Nat) (x : NC) (v : Value) : (kindN (ptK a z b) j).is F x v ↔ (kindN (ptK a z b) j).is0 F x v := by
  rcases ptK_kind a z b j with h | h <;> rw [h] <;> exact Iff.rfl
theorem NK.is_le {A B : Nat → Option Obj} (h : subF A B) {k : NK} {x : NC} {v : Value} (hc : k.is A x v) : k.is B x v := by
  cases k <;> simp only [NK.is] at hc ⊢
  · exact hc
  · exact roFlat_le h hc
  · exact roFlat_le h hc
  · exact hc.imp id fun ⟨h1, bl, base, h2, h3⟩ => ⟨h1, bl, base, h2, fun j x hx => let ⟨u, e1, e2, e3⟩ := h3 j x hx; ⟨u, fcell_le h e1, e2, NK.is0_le h e3⟩⟩
def nestIs (F : Nat → Option Obj) (ks : List NK) (l : List NC) (cs : List Value) : Prop := cs.length = l.length ∧ (∀ c ∈ cs, c.oneCell' = true) ∧ ∀ (j : Nat) (n : NC) (c : Value), l[j]? = some n → cs[j]? = some c → (kindN ks j).is F n c
theorem nestIs_le {A B : Nat → Option Obj} (h : subF A B) {ks : List NK} {l : List NC} {cs : List Value} (hc : nestIs A ks l cs) : nestIs B ks l cs :=
  ⟨hc.1, hc.2.1, fun j n c h1 h2 => NK.is_le h (hc.2.2 j n c h1 h2)⟩
def contR (F : Nat → Option Obj) (c : EV) (b base : Nat) : Prop := match c with
  | .nest ks l => ∀ (j : Nat) (x : NC), l[j]? = some x → ∃ u, fcell F b (base + j) = some u ∧ u.oneCell' = true ∧ (kindN ks j).is F x u
  | c => flatR F c b base
theorem contR_le {A B : Nat → Option Obj} (h : subF A B) {c : EV} {b base : Nat} (hc : contR A c b base) : contR B c b base := by
  cases c <;> simp only [contR] at hc ⊢
  case nest ks l => exact fun j n hn => let ⟨u, h1, h2, h3⟩ := hc j n hn; ⟨u, fcell_le h h1, h2, NK.is_le h h3⟩
  all_goals exact flatR_le h hc
theorem ptR_cont {F : Nat → Option Obj} {a z b : Nat} {l : List Int} {bl base : Nat} : ptR F a z b l bl base ↔ contR F (.nest (ptK a z b) (ptL a b l)) bl base := by
  constructor
  · intro h j x hx
    obtain ⟨u, h1, h2, h3⟩ := h j x hx
    exact ⟨u, h1, h2, (ptK_is F a z b j x u).2 h3⟩
  · intro h j x hx
    obtain ⟨u, h1, h2, h3⟩ := h j x hx
    exact ⟨u, h1, h2, (ptK_is F a z b j x u).1 h3⟩
def roR (F : Nat → Option Obj) (c : EV) (n z : Nat) (v : Value) : Prop :=
  (nilSl v ∧ n = 0) ∨ ∃ b base cap, v = .slice (some ⟨b, base, none⟩) n cap ∧ n ≤ cap ∧ n * z ≤ clen c ∧ contR F c b base
def rpR (F : Nat → Option Obj) (c : EV) (o : Nat) (v : Value) : Prop := ∃ b base, v = .pointer (some ⟨b, base + o, none⟩) ∧ contR F c b base
theorem roR_le {A B : Nat → Option Obj} (h : subF A B) {c : EV} {n z : Nat} {v : Value} (hc : roR A c n z v) : roR B c n z v :=
  hc.imp id fun ⟨b, base, cap, h1, h2, h3, h4⟩ => ⟨b, base, cap, h1, h2, h3, contR_le h h4⟩
theorem rpR_le {A B : Nat → Option Obj} (h : subF A B) {c : EV} {o : Nat} {v : Value} (hc : rpR A c o v) : rpR B c o v :=
  let ⟨b, base, h1, h2⟩ := hc; ⟨b, base, h1, contR_le h h2⟩
theorem flat_cont {F : Nat → Option Obj} {c : EV} {b base : Nat} (h : flatR F c b base) : contR F c b base := by
  cases c <;> simp only [flatR] at h <;> exact h
theorem take_get {α : Type} {l : List α} {m j : Nat} {x : α} (h : (l.take m)[j]? = some x) : l[j]? = some x := by
  rw [List.getElem?_take] at h
  split at h
  · exact h
  · cases h
theorem contR_take {F : Nat → Option Obj} {c : EV} {b base m : Nat} (h : contR F c b base) : contR F (roTake c m) b base := by
  cases c <;> simp only [contR, flatR, roTake] at h ⊢
  · exact fun j n hn => h j n (take_get hn)
  · exact fun j n hn => h j n (take_get hn)
  · exact fun j n hn => h j n (take_get hn)
theorem clen_take {F : Nat → Option Obj} {c : EV} {b base m : Nat} (h : contR F c b base) (hm : m ≤ clen c) : clen (roTake c m) = m := by
  cases c <;> simp only [contR, flatR, clen, roTake, List.length_take] at h hm ⊢ <;> first | omega | exact h.elim
theorem nestC_get (ks : List NK) (l : List NC) (j : Nat) : (nestC ks l)[j]? = (l[j]?).map (kindN ks j).dec := by
  unfold nestC; rw [List.getElem?_mapIdx]
theorem nestC_len (ks : List NK) (l : List NC) : (nestC ks l).length = l.length := by simp [nestC]
theorem mixC_get (ks : List CK) (l : List Int) (j : Nat) : (mixC ks l)[j]? = (l[j]?).map (kindAt ks j).dec := by
  unfold mixC; rw [List.getElem?_mapIdx]
theorem mixC_len (ks : List CK) (l : List Int) : (mixC ks l).length = l.length := by simp [mixC]

def fnOf (f : Nat) : Fn := if f < yld then .func f else .yield (f - yld)
theorem fnOf_func {f : Nat} (h : f < yld) : fnOf f = .func f := if_pos h
theorem fnOf_yield (l : Nat) : fnOf (yld + l) = .yield l := by
  unfold fnOf
  rw [if_neg (Nat.not_lt.2 (Nat.le_add_right _ _)), Nat.add_sub_cancel_left]
mutual
def VR (ρ : RM) : EV → Value → Prop
  | .unk, _ => True
  | .bool b, v => v = .bool b
  | .int k n, v => v = .int k n
  | .str s, v => v = .string ⟨s.toArray⟩
  | .nilp, v => v = .pointer none
  | .ptr r o, v => ∃ a, v = .pointer (some a) ∧ ∃ l, ρ r = some l ∧ ∀ L, l = some L → a = ⟨L.block, L.base + o, none⟩
  | .nils, v => v = .slice none 0 0
  | .slice r o n z, v => ∃ a cap, v = .slice (some a) n cap ∧ n ≤ cap ∧ ∃ l, ρ r = some l ∧ ∀ L, l = some L → (cap ≠ 0 → a = ⟨L.block, L.base + o, none⟩) ∧ o + cap * z ≤ L.room
  | .ints k l, v => v = .agg (l.map (Value.int k)).toArray
  | .mix ks l, v => ∃ cs : List Value, v = .agg cs.toArray ∧ mixIs ks l cs
  | .nest ks l, v => ∃ cs : List Value, v = .agg cs.toArray ∧ nestIs ρ.F ks l cs
  | .ro c n z, v => roR ρ.F c n z v
  | .rp c o, v => rpR ρ.F c o v
  | .agg l, v => ∃ cs : List Value, v = .agg cs.toArray ∧ VRs ρ l cs ∧ ∀ c ∈ cs, c.oneCell' = true
  | .tup l, v => ∃ cs : List Value, v = .tuple cs.toArray ∧ VRs ρ l cs
  | .fn f a b, v => ∃ x y : List Value, v = .func (fnOf f) x.toArray y.toArray ∧ VRs ρ a x ∧ VRs ρ b y
  | .nilf, v => v = .nilFunc
def VRs (ρ : RM) : List EV → List Value → Prop
  | [], vs => vs = []
  | e :: l, vs => ∃ v r, vs = v :: r ∧ VR ρ e v ∧ VRs ρ l r
end

theorem le_refl (ρ : RM) : le ρ ρ := ⟨fun _ _ h => .inl h, leF_refl _, rfl⟩
theorem le_trans {a b c : RM} (h : le a b) (k : le b c) : le a c := ⟨fun r l hr => by
  rcases h.1 r l hr with h | h
  · exact k.1 r l h
  · rcases k.1 r none h with h | h <;> exact .inr h, fun b o hb => k.2.1 b o (h.2.1 b o hb), k.2.2.trans h.2.2⟩

mutual
theorem VR_ren {ρ ρ' : RM} {σ : Nat → Option Nat} (h : (∀ r s l, σ r = some s → ρ r = some l → ρ' s = some l ∨ ρ' s = some none) ∧ leF ρ.F ρ'.F) : ∀ (e : EV) (v : Value), VR ρ e v → VR ρ' (ren σ e) v
  | .unk, v, _ => by simp [ren, VR]
  | .bool b, v, hv => by simpa [ren, VR] using hv
  | .int k n, v, hv => by simpa [ren, VR] using hv
  | .str s, v, hv => by simpa [ren, VR] using hv
  | .nilp, v, hv => by simpa [ren, VR] using hv
  | .ptr r o, v, hv => by
    simp only [VR] at hv
    obtain ⟨a, rfl, l, hl, ha⟩ := hv
    cases hs : σ r with
    | none => simp [ren, hs, VR]
    | some s =>
      simp only [ren, hs, VR]
      rcases h.1 r s l hs hl with h' | h'
      · exact ⟨a, rfl, l, h', ha⟩
      · exact ⟨a, rfl, none, h', fun _ hn => by cases hn⟩
  | .nils, v, hv => by simpa [ren, VR] using hv
  | .slice r o n z, v, hv => by
    simp only [VR] at hv
    obtain ⟨a, cap, rfl, hn, l, hl, ha⟩ := hv
    cases hs : σ r with
    | none => simp [ren, hs, VR]
    | some s =>
      simp only [ren, hs, VR]
      rcases h.1 r s l hs hl with h' | h'
      · exact ⟨a, cap, rfl, hn, l, h', ha⟩
      · exact ⟨a, cap, rfl, hn, none, h', fun _ hn => by cases hn⟩
  | .ints k l, v, hv => by simpa [ren, VR] using hv
  | .mix ks l, v, hv => by simpa [ren, VR] using hv
  | .nest ks l, v, hv => by
    simp only [ren, VR] at hv ⊢
    obtain ⟨cs, h1, h2⟩ := hv
    exact ⟨cs, h1, nestIs_le h.2.sub h2⟩
  | .ro c n z, v, hv => by
    simp only [ren, VR] at hv ⊢
    exact roR_le h.2.sub hv
  | .rp c o, v, hv => by
    simp only [ren, VR] at hv ⊢
    exact rpR_le h.2.sub hv
  | .agg l, v, hv => by
    simp only [VR] at hv
    obtain ⟨cs, rfl, hl, hc⟩ := hv
    simp only [ren, VR]
    exact ⟨cs, rfl, VRs_ren h l cs hl, hc⟩
  | .tup l, v, hv => by
    simp only [VR] at hv
    obtain ⟨cs, rfl, hl⟩ := hv
    simp only [ren, VR]
    exact ⟨cs, rfl, VRs_ren h l cs hl⟩
  | .fn f a b, v, hv => by
    simp only [VR] at hv
    obtain ⟨x, y, rfl, hx, hy⟩ := hv
    simp only [ren, VR]
    exact ⟨x, y, rfl, VRs_ren h a x hx, VRs_ren h b y hy⟩
  | .nilf, v, hv => by simpa [ren, VR] using hv
theorem VRs_ren {ρ ρ' : RM} {σ : Nat → Option Nat} (h : (∀ r s l, σ r = some s → ρ r = some l → ρ' s = some l ∨ ρ' s = some none) ∧ leF ρ.F ρ'.F) : ∀ (l : List EV) (vs : List Value), VRs ρ l vs → VRs ρ' (renL σ l) vs
  | [], vs, hv => by simpa [renL, VRs] using hv
  | e :: l, vs, hv => by
    simp only [VRs] at hv
    obtain ⟨v, r, rfl, h1, h2⟩ := hv
    simp only [renL, VRs]
    exact ⟨v, r, rfl, VR_ren h e v h1, VRs_ren h l r h2⟩
end

mutual
theorem VR_mono0 {ρ ρ' : RM} (h : le0 ρ ρ') : ∀ (e : EV) (v : Value), VR ρ e v → VR ρ' e v
  | .unk, v, _ => by simp [VR]
  | .bool b, v, hv => by simpa [VR] using hv
  | .int k n, v, hv => by simpa [VR] using hv
  | .str s, v, hv => by simpa [VR] using hv
  | .nilp, v, hv => by simpa [VR] using hv
  | .ptr r o, v, hv => by
    simp only [VR] at hv ⊢
    obtain ⟨a, rfl, l, hl, ha⟩ := hv
    rcases h.1 r l hl with h' | h'
    · exact ⟨a, rfl, l, h', ha⟩
    · exact ⟨a, rfl, none, h', fun _ hn => by cases hn⟩
  | .nils, v, hv => by simpa [VR] using hv
  | .slice r o n z, v, hv => by
    simp only [VR] at hv ⊢
    obtain ⟨a, cap, rfl, hn, l, hl, ha⟩ := hv
    rcases h.1 r l hl with h' | h'
    · exact ⟨a, cap, rfl, hn, l, h', ha⟩
    · exact ⟨a, cap, rfl, hn, none, h', fun _ hn => by cases hn⟩
  | .ints k l, v, hv => by simpa [VR] using hv
  | .mix ks l, v, hv => by simpa [VR] using hv
  | .nest ks l, v, hv => by
    simp only [VR] at hv ⊢
    obtain ⟨cs, h1, h2⟩ := hv
    exact ⟨cs, h1, nestIs_le h.2 h2⟩
  | .ro c n z, v, hv => by
    simp only [VR] at hv ⊢
    exact roR_le h.2 hv
  | .rp c o, v, hv => by
    simp only [VR] at hv ⊢
    exact rpR_le h.2 hv
  | .agg l, v, hv => by
    simp only [VR] at hv ⊢
    obtain ⟨cs, rfl, hl, hc⟩ := hv
    exact ⟨cs, rfl, VRs_mono0 h l cs hl, hc⟩
  | .tup l, v, hv => by
    simp only [VR] at hv ⊢
    obtain ⟨cs, rfl, hl⟩ := hv
    exact ⟨cs, rfl, VRs_mono0 h l cs hl⟩
  | .fn f a b, v, hv => by
    simp only [VR] at hv ⊢
    obtain ⟨x, y, rfl, hx, hy⟩ := hv
    exact ⟨x, y, rfl, VRs_mono0 h a x hx, VRs_mono0 h b y hy⟩
  | .nilf, v, hv => by simpa [VR] using hv
theorem VRs_mono0 {ρ ρ' : RM} (h : le0 ρ ρ') : ∀ (l : List EV) (vs : List Value), VRs ρ l vs → VRs ρ' l vs
  | [], vs, hv => by simpa [VRs] using hv
  | e :: l, vs, hv => by
    simp only [VRs] at hv ⊢
    obtain ⟨v, r, rfl, h1, h2⟩ := hv
    exact ⟨v, r, rfl, VR_mono0 h e v h1, VRs_mono0 h l r h2⟩
end

theorem VR_mono {ρ ρ' : RM} (h : le ρ ρ') (e : EV) (v : Value) (hv : VR ρ e v) : VR ρ' e v := VR_mono0 ⟨h.1, h.2.1⟩ e v hv
theorem VRs_mono {ρ ρ' : RM} (h : le ρ ρ') (l : List EV) (vs : List Value) (hv : VRs ρ l vs) : VRs ρ' l vs := VRs_mono0 ⟨h.1, h.2.1⟩ l vs hv

theorem VRs_length {ρ : RM} : ∀ {l : List EV} {vs : List Value}, VRs ρ l vs → vs.length = l.length
  | [], vs, h => by simp only [VRs] at h; subst h; rfl
  | e :: l, vs, h => by
    simp only [VRs] at h
    obtain ⟨v, r, rfl, _, h2⟩ := h
    simp [VRs_length h2]
theorem VRs_get {ρ : RM} : ∀ {l : List EV} {vs : List Value}, VRs ρ l vs → ∀ (j : Nat) (e : EV), l[j]? = some e → ∃ v, vs[j]? = some v ∧ VR ρ e v
  | [], vs, h, j, e, hj => by simp at hj
  | x :: l, vs, h, j, e, hj => by
    simp only [VRs] at h
    obtain ⟨v, r, rfl, h1, h2⟩ := h
    cases j with
    | zero => simp at hj; subst hj; exact ⟨v, rfl, h1⟩
    | succ j =>
      simp at hj
      obtain ⟨u, hu, hr⟩ := VRs_get h2 j e hj
      exact ⟨u, by simpa using hu, hr⟩
theorem VRs_mk {ρ : RM} : ∀ {l : List EV} {vs : List Value}, vs.length = l.length → (∀ (j : Nat) (e : EV), l[j]? = some e → ∃ v, vs[j]? = some v ∧ VR ρ e v) → VRs ρ l vs
  | [], vs, hl, h => by simp only [VRs]; exact List.length_eq_zero_iff.1 hl
  | e :: l, [], hl, h => by simp at hl
  | e :: l, v :: r, hl, h => by
    simp only [VRs]
    refine ⟨v, r, rfl, ?_, VRs_mk (by simpa using hl) fun j x hj => ?_⟩
    · obtain ⟨u, hu, hr⟩ := h 0 e rfl
      simp at hu
      subst hu
      exact hr
    · obtain ⟨u, hu, hr⟩ := h (j + 1) x (by simpa using hj)
      exact ⟨u, by simpa using hu, hr⟩
theorem VRs_append {ρ : RM} : ∀ {l l' : List EV} {vs vs' : List Value}, VRs ρ l vs → VRs ρ l' vs' → VRs ρ (l ++ l') (vs ++ vs')
  | [], l', vs, vs', h, h' => by simp only [VRs] at h; subst h; simpa using h'
  | e :: l, l', vs, vs', h, h' => by
    simp only [VRs] at h
    obtain ⟨v, r, rfl, h1, h2⟩ := h
    simp only [List.cons_append, VRs]
    exact ⟨v, r ++ vs', rfl, h1, VRs_append h2 h'⟩

/-! ### Cells -/
theorem allInts_some {k : IntKind} : ∀ {l : List EV} {x : List Int}, allInts k l = some x → l = x.map (EV.int k)
  | [], x, h => by simp [allInts] at h; subst h; rfl
  | .int k' n :: r, x, h => by
    simp only [allInts] at h
    split at h
    · rename_i hk
      subst hk
      simp only [Option.map_eq_some_iff] at h
      obtain ⟨y, hy, rfl⟩ := h
      simp [allInts_some hy]
    · simp at h
  | .unk :: r, x, h => by simp [allInts] at h
  | .bool _ :: r, x, h => by simp [allInts] at h
  | .str _ :: r, x, h => by simp [allInts] at h
  | .nilp :: r, x, h => by simp [allInts] at h
  | .ptr _ _ :: r, x, h => by simp [allInts] at h
  | .nils :: r, x, h => by simp [allInts] at h
  | .slice _ _ _ _ :: r, x, h => by simp [allInts] at h
  | .ints _ _ :: r, x, h => by simp [allInts] at h
  | .mix _ _ :: r, x, h => by simp [allInts] at h
  | .nest _ _ :: r, x, h => by simp [allInts] at h
  | .ro _ _ _ :: r, x, h => by simp [allInts] at h
  | .rp _ _ :: r, x, h => by simp [allInts] at h
  | .agg _ :: r, x, h => by simp [allInts] at h
  | .tup _ :: r, x, h => by simp [allInts] at h
  | .fn _ _ _ :: r, x, h => by simp [allInts] at h
  | .nilf :: r, x, h => by simp [allInts] at h

theorem mkAgg_cases (l : List EV) : (∃ k x, mkAgg l = .ints k x ∧ l = x.map (EV.int k)) ∨ mkAgg l = .agg l := by
  unfold mkAgg
  split
  · rename_i k n r
    split
    · rename_i x hx
      exact .inl ⟨k, n :: x, rfl, by simp [allInts_some hx]⟩
    · exact .inr rfl
  · exact .inr rfl
theorem cget_mkAgg (l : List EV) (j : Nat) : cget (mkAgg l) j = l[j]? := by
  rcases mkAgg_cases l with ⟨k, x, h, rfl⟩ | h <;> rw [h] <;> simp [cget]
theorem clen_mkAgg (l : List EV) : clen (mkAgg l) = l.length := by
  rcases mkAgg_cases l with ⟨k, x, h, rfl⟩ | h <;> rw [h] <;> simp [clen]
theorem isAgg_mkAgg (l : List EV) : isAgg (mkAgg l) = true := by
  rcases mkAgg_cases l with ⟨k, x, h, rfl⟩ | h <;> rw [h] <;> rfl

theorem cget_lt {c : EV} {i : Nat} {e : EV} (h : cget c i = some e) : i < clen c := by
  cases c <;> simp [cget, clen] at h ⊢
  · obtain ⟨a, h, _⟩ := h
    exact (List.getElem?_eq_some_iff.1 h).1
  · obtain ⟨a, h, _⟩ := h
    exact (List.getElem?_eq_some_iff.1 h).1
  · obtain ⟨a, h, _⟩ := h
    exact (List.getElem?_eq_some_iff.1 h).1
  · exact (List.getElem?_eq_some_iff.1 h).1
theorem cget_some {c : EV} {i : Nat} (ha : isAgg c = true) (h : i < clen c) : ∃ e, cget c i = some e := by
  cases c <;> simp [isAgg] at ha <;> simp only [cget, clen] at h ⊢
  · exact ⟨_, by rw [List.getElem?_eq_getElem h]; rfl⟩
  · exact ⟨_, by rw [List.getElem?_eq_getElem h]; rfl⟩
  · exact ⟨_, by rw [List.getElem?_eq_getElem h]; rfl⟩
  · exact ⟨_, List.getElem?_eq_getElem h⟩
theorem cget_none {c : EV} {i : Nat} (h : clen c ≤ i) : cget c i = none := by
  cases c <;> simp [cget, clen] at h ⊢ <;> omega
theorem cells_get {v : EV} (ha : isAgg v = true) (j : Nat) : (cells v)[j]? = cget v j := by
  cases v <;> simp [isAgg] at ha <;> simp [cells, cget, mixC_get, nestC_get]
theorem cells_length (v : EV) : (cells v).length = clen v := by
  cases v <;> simp [cells, clen, mixC_len, nestC_len]
theorem recC_get : ∀ (ks : List CK) (l : List Int) (i j : Nat), (recC ks l i)[j]? = (ks[j]?).map fun k => k.dec (l.getD (i + j) 0)
  | [], l, i, j => by simp [recC]
  | k :: r, l, i, 0 => by simp [recC]
  | k :: r, l, i, j + 1 => by
    simp only [recC, List.getElem?_cons_succ, recC_get r l (i + 1) j]
    rw [show i + 1 + j = i + (j + 1) by omega]
theorem recC_len : ∀ (ks : List CK) (l : List Int) (i : Nat), (recC ks l i).length = ks.length
  | [], l, i => rfl
  | k :: r, l, i => by simp [recC, recC_len r l (i + 1)]
theorem kindAt_add {ks : List CK} {i j : Nat} (hi : i % ks.length = 0) : kindAt ks (i + j) = kindAt ks j := by
  unfold kindAt; rw [Nat.add_mod, hi, Nat.zero_add, Nat.mod_mod]
theorem kindAt_one (k : CK) (i : Nat) : kindAt [k] i = k := by
  unfold kindAt; simp [Nat.mod_one]
theorem kindAt_lt {ks : List CK} {j : Nat} (h : j < ks.length) : ks[j]? = some (kindAt ks j) := by
  unfold kindAt; rw [Nat.mod_eq_of_lt h, List.getD_eq_getElem?_getD, List.getElem?_eq_getElem h]; rfl
theorem encC_get : ∀ {ks : List CK} {x : List EV} {l : List Int}, encC ks x = some l → x.length = ks.length ∧ l.length = ks.length ∧ ∀ (j : Nat), x[j]? = (ks[j]?).bind fun (k : CK) => (l[j]?).map k.dec
  | [], [], l, h => by cases h; exact ⟨rfl, rfl, fun j => by simp⟩
  | [], _ :: _, l, h => by cases h
  | .int k :: r, .int k' n :: x, l, h => by
    simp only [encC] at h
    split at h
    · rename_i e
      subst e
      simp only [Option.map_eq_some_iff] at h
      obtain ⟨y, hy, rfl⟩ := h
      obtain ⟨h1, h2, h3⟩ := encC_get hy
      refine ⟨by simp [h1], by simp [h2], fun j => ?_⟩
      cases j with
      | zero => simp [CK.dec]
      | succ j => simpa using h3 j
    · cases h
  | .bool :: r, .bool b :: x, l, h => by
    simp only [encC, Option.map_eq_some_iff] at h
    obtain ⟨y, hy, rfl⟩ := h
    obtain ⟨h1, h2, h3⟩ := encC_get hy
    refine ⟨by simp [h1], by simp [h2], fun j => ?_⟩
    cases j with
    | zero => cases b <;> simp [CK.dec]
    | succ j => simpa using h3 j
  | .int k :: r, [], l, h => by simp [encC] at h
  | .bool :: r, [], l, h => by simp [encC] at h
  | .int k :: r, .bool _ :: x, l, h => by simp [encC] at h
  | .bool :: r, .int _ _ :: x, l, h => by simp [encC] at h
  | .int k :: r, .unk :: x, l, h => by simp [encC] at h
  | .int k :: r, .str _ :: x, l, h => by simp [encC] at h
  | .int k :: r, .nilp :: x, l, h => by simp [encC] at h
  | .int k :: r, .ptr _ _ :: x, l, h => by simp [encC] at h
  | .int k :: r, .nils :: x, l, h => by simp [encC] at h
  | .int k :: r, .slice _ _ _ _ :: x, l, h => by simp [encC] at h
  | .int k :: r, .ints _ _ :: x, l, h => by simp [encC] at h
  | .int k :: r, .mix _ _ :: x, l, h => by simp [encC] at h
  | .int k :: r, .nest _ _ :: x, l, h => by simp [encC] at h
  | .int k :: r, .ro _ _ _ :: x, l, h => by simp [encC] at h
  | .int k :: r, .rp _ _ :: x, l, h => by simp [encC] at h
  | .int k :: r, .agg _ :: x, l, h => by simp [encC] at h
  | .int k :: r, .tup _ :: x, l, h => by simp [encC] at h
  | .int k :: r, .fn _ _ _ :: x, l, h => by simp [encC] at h
  | .int k :: r, .nilf :: x, l, h => by simp [encC] at h
  | .bool :: r, .unk :: x, l, h => by simp [encC] at h
  | .bool :: r, .str _ :: x, l, h => by simp [encC] at h
  | .bool :: r, .nilp :: x, l, h => by simp [encC] at h
  | .bool :: r, .ptr _ _ :: x, l, h => by simp [encC] at h
  | .bool :: r, .nils :: x, l, h => by simp [encC] at h
  | .bool :: r, .slice _ _ _ _ :: x, l, h => by simp [encC] at h
  | .bool :: r, .ints _ _ :: x, l, h => by simp [encC] at h
  | .bool :: r, .mix _ _ :: x, l, h => by simp [encC] at h
  | .bool :: r, .nest _ _ :: x, l, h => by simp [encC] at h
  | .bool :: r, .ro _ _ _ :: x, l, h => by simp [encC] at h
  | .bool :: r, .rp _ _ :: x, l, h => by simp [encC] at h
  | .bool :: r, .agg _ :: x, l, h => by simp [encC] at h
  | .bool :: r, .tup _ :: x, l, h => by simp [encC] at h
  | .bool :: r, .fn _ _ _ :: x, l, h => by simp [encC] at h
  | .bool :: r, .nilf :: x, l, h => by simp [encC] at h
theorem mixUp_spec (sz : Nat) (v : EV) : isAgg (mixUp sz v) = isAgg v ∧ clen (mixUp sz v) = clen v ∧ ∀ j, cget (mixUp sz v) j = cget v j := by
  unfold mixUp
  repeat' split
  all_goals first
    | exact ⟨rfl, rfl, fun _ => rfl⟩
    | skip
  rename_i x hx
  obtain ⟨h1, h2, h3⟩ := encC_get hx
  refine ⟨rfl, by simp only [clen, h2, h1], fun j => ?_⟩
  rename_i ks _ _
  show Option.map (kindAt ks j).dec x[j]? = (_ :: _)[j]?
  rw [h3 j]
  by_cases hj : j < ks.length
  · rw [kindAt_lt hj]; rfl
  · rw [List.getElem?_eq_none (l := ks) (by omega), List.getElem?_eq_none (l := x) (by omega)]; rfl

theorem kindN_lt {ks : List NK} {j : Nat} (h : j < ks.length) : ks[j]? = some (kindN ks j) := by
  unfold kindN; rw [Nat.mod_eq_of_lt h, List.getD_eq_getElem?_getD, List.getElem?_eq_getElem h]; rfl
theorem kindN_one (k : NK) (i : Nat) : kindN [k] i = k := by
  unfold kindN; simp [Nat.mod_one]
theorem kindN_at {ks : List NK} {i j f : Nat} (hi : i % ks.length = f) (hf : f + j < ks.length) : kindN ks (i + j) = kindN ks (f + j) := by
  unfold kindN
  rw [Nat.add_mod, hi, Nat.mod_eq_of_lt (show j < ks.length by omega)]
theorem recN_get : ∀ (ks : List NK) (l : List NC) (i j : Nat), (recN ks l i)[j]? = (ks[j]?).map fun k => k.dec (l.getD (i + j) ⟨0, []⟩)
  | [], l, i, j => by simp [recN]
  | k :: r, l, i, 0 => by simp [recN]
  | k :: r, l, i, j + 1 => by
    simp only [recN, List.getElem?_cons_succ, recN_get r l (i + 1) j]
    rw [show i + 1 + j = i + (j + 1) by omega]
theorem recN_len : ∀ (ks : List NK) (l : List NC) (i : Nat), (recN ks l i).length = ks.length
  | [], l, i => rfl
  | k :: r, l, i => by simp [recN, recN_len r l (i + 1)]
theorem get_someN {l : List NC} {i : Nat} (h : i < l.length) : l[i]? = some (l.getD i ⟨0, []⟩) := by
  rw [List.getD_eq_getElem?_getD, List.getElem?_eq_getElem h]; rfl
theorem intN_at : ∀ {ks : List NK} {k : IntKind}, intN ks = some k → ∀ j, j < ks.length → ks.getD j (.c .any) = .c (.int k)
  | [], _, h, j, hj => by cases h
  | .c (.int k') :: r, k, h, j, hj => by
    match r, h with
    | [], h =>
      simp only [intN, Option.some.injEq] at h
      subst h
      have : j = 0 := by simpa using hj
      subst this; rfl
    | q :: r, h =>
      simp only [intN] at h
      split at h
      · rename_i k2 h2
        split at h
        · rename_i e
          subst e
          simp only [Option.some.injEq] at h
          subst h
          cases j with
          | zero => rfl
          | succ j => exact intN_at (ks := q :: r) h2 j (by simpa using hj)
        · cases h
      · cases h
  | .c .bool :: r, k, h, j, hj => by simp [intN] at h
  | .c .any :: r, k, h, j, hj => by simp [intN] at h
  | .si _ _ :: r, k, h, j, hj => by simp [intN] at h
  | .sm _ :: r, k, h, j, hj => by simp [intN] at h
  | .pt _ _ _ :: r, k, h, j, hj => by simp [intN] at h
theorem kindN_getD {ks : List NK} {j : Nat} (h : j < ks.length) : kindN ks j = ks.getD j (.c .any) := by
  unfold kindN; rw [Nat.mod_eq_of_lt h]
theorem recV_spec {ks : List NK} {l : List NC} {i : Nat} (hle : i + ks.length ≤ l.length) : isAgg (recV ks l i) = true ∧ clen (recV ks l i) = ks.length ∧ ∀ j, j < ks.length → cget (recV ks l i) j = some ((ks.getD j (.c .any)).dec (l.getD (i + j) ⟨0, []⟩)) := by
  unfold recV
  split
  · rename_i k hk
    refine ⟨rfl, by simp only [clen, List.length_map, List.length_take, List.length_drop]; omega, fun j hj => ?_⟩
    simp only [cget, List.getElem?_map, List.getElem?_take_of_lt hj, List.getElem?_drop, intN_at hk j hj, get_someN (l := l) (i := i + j) (by omega)]
    rfl
  · split
    · refine ⟨rfl, by simp only [clen, recN_len], fun j hj => ?_⟩
      simp only [cget, recN_get]
      rw [List.getElem?_eq_getElem hj]
      simp only [Option.map_some, List.getD_eq_getElem?_getD, List.getElem?_eq_getElem hj, Option.getD_some]
    · refine ⟨rfl, by simp only [clen, List.length_take, List.length_drop]; omega, fun j hj => ?_⟩
      simp only [cget, List.getElem?_take_of_lt hj, List.getElem?_drop, get_someN (l := l) (i := i + j) (by omega), Option.map_some, kindN_getD hj]
theorem subN_spec {ks : List NK} {l : List NC} {i n : Nat} {x : EV} (hle : i + n ≤ l.length) : ∀ (q f : Nat), q + f + n ≤ ks.length + 1 → subN ks l i n q f = some x → isAgg x = true ∧ clen x = n ∧ ∀ j, j < n → cget x j = cget (.nest ks l) (i + j)
  | 0, f, _, h => by cases h
  | q + 1, f, hq, h => by
    unfold subN at h
    split at h
    · rename_i hm
      cases h
      have hlen : ((ks.drop f).take n).length = n := by rw [List.length_take, List.length_drop]; omega
      obtain ⟨h1, h2, h3⟩ := recV_spec (ks := (ks.drop f).take n) (l := l) (i := i) (by rw [hlen]; exact hle)
      refine ⟨h1, h2.trans hlen, fun j hj => ?_⟩
      rw [h3 j (by rw [hlen]; exact hj)]
      simp only [cget]
      rw [get_someN (l := l) (i := i + j) (by omega), kindN_at hm (by omega), Option.map_some, kindN_getD (by omega), List.getD_eq_getElem?_getD, List.getElem?_take_of_lt hj, List.getElem?_drop, ← List.getD_eq_getElem?_getD]
    · exact subN_spec hle q (f + 1) (by omega) h
theorem get_some' {l : List Int} {i : Nat} (h : i < l.length) : l[i]? = some (l.getD i 0) := by
  rw [List.getD_eq_getElem?_getD, List.getElem?_eq_getElem h]; rfl
theorem csub_spec {c x : EV} {i n : Nat} (h : csub c i n = some x) : isAgg c = true ∧ isAgg x = true ∧ clen x = n ∧ i + n ≤ clen c ∧ ∀ j, j < n → cget x j = cget c (i + j) := by
  cases c <;> simp [csub] at h
  · obtain ⟨hle, rfl⟩ := h
    refine ⟨rfl, rfl, by simp [clen]; omega, by simpa [clen] using hle, fun j hj => ?_⟩
    simp [cget, hj]
  · obtain ⟨hle, h⟩ := h
    rename_i ks l
    split at h
    · cases h
      refine ⟨rfl, rfl, by simp [clen]; omega, by simpa [clen] using hle, fun j hj => ?_⟩
      simp only [cget, kindAt_one]
      rw [List.getElem?_take_of_lt hj, List.getElem?_drop]
    · split at h
      · rename_i hn
        split at h
        · rename_i hm
          cases h
          refine ⟨rfl, rfl, by simp [clen, recC_len]; omega, by simpa [clen] using hle, fun j hj => ?_⟩
          simp only [cget, recC_get, kindAt_add hm]
          rw [kindAt_lt (by omega), get_some' (l := l) (i := i + j) (by omega)]
          rfl
        · cases h
      · cases h
  · obtain ⟨hle, h⟩ := h
    rename_i ks l
    by_cases hn : n ≤ ks.length + 1
    · obtain ⟨h1, h2, h3⟩ := subN_spec hle _ _ (by omega) h
      exact ⟨rfl, h1, h2, by simpa [clen] using hle, h3⟩
    · rw [show ks.length + 1 - n = 0 by omega] at h
      cases h
  · obtain ⟨hle, rfl⟩ := h
    refine ⟨rfl, isAgg_mkAgg _, by simp [clen_mkAgg]; omega, by simpa [clen] using hle, fun j hj => ?_⟩
    rw [cget_mkAgg]
    simp [cget, hj]

theorem put_get {α : Type} (l x : List α) (i j : Nat) (h : i + x.length ≤ l.length) :
    (l.take i ++ (x ++ l.drop (i + x.length)))[j]? = if i ≤ j ∧ j < i + x.length then x[j - i]? else l[j]? := by
  by_cases h1 : j < i
  · rw [if_neg (by omega), List.getElem?_append_left (by simp; omega), List.getElem?_take_of_lt h1]
  · rw [List.getElem?_append_right (by simp; omega)]
    simp only [List.length_take]
    rw [Nat.min_eq_left (by omega)]
    by_cases h2 : j < i + x.length
    · rw [if_pos ⟨by omega, h2⟩, List.getElem?_append_left (by omega)]
    · rw [if_neg (by omega), List.getElem?_append_right (by omega), List.getElem?_drop]
      congr 1
      omega

theorem whole_put {c v : EV} (h : clen v = clen c) (hc : isAgg c = true) (hv : isAgg v = true) (j : Nat) : cget v j = if 0 ≤ j ∧ j < 0 + clen v then (cells v)[j - 0]? else cget c j := by
  have key : ∀ {u : EV}, isAgg u = true → (cells u)[j]? = cget u j := fun {u} hu => by cases u <;> simp [isAgg] at hu <;> simp [cells, cget, mixC_get, nestC_get]
  have klen : ∀ {u : EV}, isAgg u = true → clen u ≤ j → cget u j = none := fun {u} hu hl => by
    cases u <;> simp [isAgg] at hu <;> simp only [clen] at hl <;> simp [cget, List.getElem?_eq_none hl]
  by_cases hj : j < clen v
  · rw [if_pos ⟨Nat.zero_le _, by omega⟩, Nat.sub_zero, key hv]
  · rw [if_neg (by omega), klen hv (by omega), klen hc (by omega)]
theorem cput_spec {c v c' : EV} {i : Nat} (hput0 : cput c i v = some c') :
    isAgg c = true ∧ isAgg c' = true ∧ clen c' = clen c ∧ i + clen v ≤ clen c ∧ (isAgg v = true ∨ isScalar v = true) ∧
      ∀ j, cget c' j = if i ≤ j ∧ j < i + clen v then (cells v)[j - i]? else cget c j := by
  have hsc : ∀ (l : List EV) (v : EV), isScalar v = true → i < l.length → cput (.agg l) i v = some (.agg (l.set i v)) → ∀ j, (l.set i v)[j]? = if i ≤ j ∧ j < i + clen v then (cells v)[j - i]? else l[j]? := by
    intro l v hv hi _ j
    have hcl : clen v = 1 ∧ cells v = [v] := by cases v <;> simp [isScalar] at hv <;> exact ⟨rfl, rfl⟩
    rw [hcl.1, hcl.2, List.getElem?_set]
    by_cases e : i = j
    · subst e; simp [hi]
    · rw [if_neg e, if_neg (by omega)]
  have hfall : ∀ (l : List EV) (v : EV), (if (isScalar v && decide (i < l.length)) = true then some (EV.agg (l.set i v)) else none) = some c' → c = .agg l → isAgg c = true ∧ isAgg c' = true ∧ clen c' = clen c ∧ i + clen v ≤ clen c ∧ (isAgg v = true ∨ isScalar v = true) ∧
      ∀ j, cget c' j = if i ≤ j ∧ j < i + clen v then (cells v)[j - i]? else cget c j := by
    intro l v hif hc
    subst hc
    split at hif
    · rename_i hh
      simp only [Bool.and_eq_true, decide_eq_true_eq] at hh
      obtain ⟨hv, hi⟩ := hh
      simp only [Option.some.injEq] at hif
      subst hif
      have hcl : clen v = 1 := by cases v <;> simp [isScalar] at hv <;> rfl
      have hput : cput (.agg l) i v = some (.agg (l.set i v)) := by
        cases v <;> simp [isScalar] at hv <;> simp [cput, isScalar, hi]
      refine ⟨rfl, rfl, by simp [clen], by rw [hcl]; exact hi, .inr hv, fun j => ?_⟩
      exact hsc l v hv hi hput j
    · simp at hif
  have h := hput0
  cases c with
  | ints k l =>
    cases v <;> simp only [cput] at h <;> try (simp at h; done)
    · rename_i k' n
      split at h
      · rename_i hk
        subst hk
        split at h
        · rename_i hi
          simp only [Option.some.injEq] at h
          subst h
          refine ⟨rfl, rfl, by simp [clen], by simp only [clen]; omega, .inr rfl, fun j => ?_⟩
          have hc1 : clen (EV.int k n) = 1 := rfl
          by_cases e : i = j
          · subst e
            rw [if_pos ⟨Nat.le_refl _, by omega⟩]
            simp [cget, cells, hi]
          · rw [if_neg (by omega)]
            simp only [cget, List.getElem?_set_ne e]
        · simp at h
      · simp at h
    · rename_i k' x
      split at h
      · rename_i hk
        subst hk
        split at h
        · rename_i hi
          simp only [Option.some.injEq] at h
          subst h
          refine ⟨rfl, rfl, by simp [clen]; omega, by simpa [clen] using hi, .inl rfl, fun j => ?_⟩
          have hcx : clen (EV.ints k x) = x.length := rfl
          have hp := put_get l x i j hi
          by_cases hc : i ≤ j ∧ j < i + x.length
          · rw [if_pos (by rw [hcx]; exact hc)]
            rw [if_pos hc] at hp
            simp only [cget, cells, hp, List.getElem?_map]
          · rw [if_neg (by rw [hcx]; exact hc)]
            rw [if_neg hc] at hp
            simp only [cget, hp]
        · simp at h
      · simp at h
  | mix ks l =>
    cases v <;> simp only [cput] at h <;> try (simp at h; done)
    · rename_i b
      split at h
      · rename_i hk
        split at h
        · rename_i hi
          simp only [Option.some.injEq] at h
          subst h
          refine ⟨rfl, rfl, by simp [clen], by simp only [clen]; omega, .inr rfl, fun j => ?_⟩
          have hc1 : clen (EV.bool b) = 1 := rfl
          by_cases e : i = j
          · subst e
            rw [if_pos ⟨Nat.le_refl _, by omega⟩]
            simp only [cget, List.getElem?_set_self hi, Option.map_some, hk, Nat.sub_self]
            cases b <;> rfl
          · rw [if_neg (by omega)]
            simp only [cget, List.getElem?_set_ne e]
        · simp at h
      · simp at h
    · rename_i k n
      split at h
      · rename_i hk
        split at h
        · rename_i hi
          simp only [Option.some.injEq] at h
          subst h
          refine ⟨rfl, rfl, by simp [clen], by simp only [clen]; omega, .inr rfl, fun j => ?_⟩
          have hc1 : clen (EV.int k n) = 1 := rfl
          by_cases e : i = j
          · subst e
            rw [if_pos ⟨Nat.le_refl _, by omega⟩]
            simp only [cget, List.getElem?_set_self hi, Option.map_some, hk, Nat.sub_self]
            rfl
          · rw [if_neg (by omega)]
            simp only [cget, List.getElem?_set_ne e]
        · simp at h
      · simp at h
  | nest ks l =>
    cases v <;> simp only [cput] at h <;> try (simp at h; done)
    · rename_i b
      split at h
      · rename_i hk
        split at h
        · rename_i hi
          simp only [Option.some.injEq] at h
          subst h
          refine ⟨rfl, rfl, by simp [clen], by simp only [clen]; omega, .inr rfl, fun j => ?_⟩
          have hc1 : clen (EV.bool b) = 1 := rfl
          by_cases e : i = j
          · subst e
            rw [if_pos ⟨Nat.le_refl _, by omega⟩]
            simp only [cget, List.getElem?_set_self hi, Option.map_some, hk, Nat.sub_self]
            cases b <;> rfl
          · rw [if_neg (by omega)]
            simp only [cget, List.getElem?_set_ne e]
        · simp at h
      · simp at h
    · rename_i k n
      split at h
      · rename_i hk
        split at h
        · rename_i hi
          simp only [Option.some.injEq] at h
          subst h
          refine ⟨rfl, rfl, by simp [clen], by simp only [clen]; omega, .inr rfl, fun j => ?_⟩
          have hc1 : clen (EV.int k n) = 1 := rfl
          by_cases e : i = j
          · subst e
            rw [if_pos ⟨Nat.le_refl _, by omega⟩]
            simp only [cget, List.getElem?_set_self hi, Option.map_some, hk, Nat.sub_self]
            rfl
          · rw [if_neg (by omega)]
            simp only [cget, List.getElem?_set_ne e]
        · simp at h
      · simp at h
    · split at h
      · rename_i hi
        split at h
        · rename_i hx
          simp only [Option.some.injEq] at h
          subst h
          subst hi
          refine ⟨rfl, rfl, by simpa [clen] using hx, by simp only [clen]; omega, .inl rfl, fun j => ?_⟩
          exact whole_put (by simp only [clen]; exact hx) rfl rfl j
        · simp at h
      · simp at h
    · rename_i c n z
      cases c <;> simp only at h <;> try (simp at h; done)
      rename_i k x
      split at h
      · rename_i hk
        split at h
        · rename_i hi
          split at h
          · rename_i hz
            simp only [Option.some.injEq] at h
            subst h
            refine ⟨rfl, rfl, by simp [clen], by simp only [clen]; omega, .inr rfl, fun j => ?_⟩
            have hc1 : clen (EV.ro (.ints k x) n z) = 1 := rfl
            have hmany : many z x = n := by
              unfold many
              split
              · omega
              · rw [hz.2]; exact Nat.mul_div_cancel _ hz.1
            by_cases e : i = j
            · subst e
              rw [if_pos ⟨Nat.le_refl _, by omega⟩]
              simp only [cget, List.getElem?_set_self hi, Option.map_some, hk, Nat.sub_self, NK.dec, NK.cont, NK.sz, hmany]
              rfl
            · rw [if_neg (by omega)]
              simp only [cget, List.getElem?_set_ne e]
          · simp at h
        · simp at h
      · simp at h
    · split at h
      · rename_i hi
        split at h
        · rename_i hx
          simp only [Option.some.injEq] at h
          subst h
          subst hi
          refine ⟨rfl, rfl, by simpa [clen] using hx, by simp only [clen]; omega, .inl rfl, fun j => ?_⟩
          exact whole_put (by simp only [clen]; exact hx) rfl rfl j
        · simp at h
      · simp at h
  | agg l =>
    cases v <;> simp only [cput] at h
    case ints k x =>
      split at h
      · rename_i hi
        simp only [Option.some.injEq] at h
        subst h
        have hi' : i + (x.map (EV.int k)).length ≤ l.length := by simpa using hi
        refine ⟨rfl, rfl, by simp [clen]; omega, by simpa [clen] using hi, .inl rfl, fun j => ?_⟩
        have hp := put_get l (x.map (EV.int k)) i j hi'
        have hcx : clen (EV.ints k x) = x.length := rfl
        simp only [List.length_map] at hp
        by_cases hc : i ≤ j ∧ j < i + x.length
        · rw [if_pos (by rw [hcx]; exact hc)]
          rw [if_pos hc] at hp
          simp only [cget, cells, hp]
        · rw [if_neg (by rw [hcx]; exact hc)]
          rw [if_neg hc] at hp
          simp only [cget, hp]
      · simp at h
    case agg x =>
      split at h
      · rename_i hi
        simp only [Option.some.injEq] at h
        subst h
        refine ⟨rfl, rfl, by simp [clen]; omega, by simpa [clen] using hi, .inl rfl, fun j => ?_⟩
        exact put_get l x i j hi
      · simp at h
    case nest ks x =>
      split at h
      · rename_i hi
        split at h
        · rename_i hx
          simp only [Option.some.injEq] at h
          subst h
          subst hi
          refine ⟨rfl, rfl, by simpa [clen] using hx, by simp only [clen]; omega, .inl rfl, fun j => ?_⟩
          exact whole_put (by simp only [clen]; exact hx) rfl rfl j
        · simp at h
      · simp at h
    all_goals exact hfall l _ h rfl
  | _ => cases v <;> simp [cput] at h

theorem ccat_spec {a b c : EV} (h : ccat a b = some c) : isAgg a = true ∧ isAgg b = true ∧ isAgg c = true ∧ clen c = clen a + clen b ∧ ∀ j, cget c j = if j < clen a then cget a j else cget b (j - clen a) := by
  have key : ∀ {α : Type} (l x : List α) (j : Nat), (l ++ x)[j]? = if j < l.length then l[j]? else x[j - l.length]? := by
    intro α l x j
    split
    · rw [List.getElem?_append_left (by assumption)]
    · rw [List.getElem?_append_right (by omega)]
  cases a <;> cases b <;> simp only [ccat] at h <;> try (simp at h; done)
  · split at h
    · rename_i k l k' x hk
      subst hk
      simp only [Option.some.injEq] at h
      subst h
      refine ⟨rfl, rfl, rfl, by simp [clen], fun j => ?_⟩
      have hcx : clen (EV.ints k l) = l.length := rfl
      by_cases hj : j < l.length
      · rw [if_pos (by rw [hcx]; exact hj)]
        simp only [cget, key, if_pos hj]
      · rw [if_neg (by rw [hcx]; exact hj)]
        simp only [cget, key, if_neg hj, clen]
    · simp at h
  · rename_i k l x
    cases x with
    | nil =>
      simp only [Option.some.injEq] at h
      subst h
      refine ⟨rfl, rfl, rfl, by simp [clen], fun j => ?_⟩
      have hcx : clen (EV.ints k l) = l.length := rfl
      by_cases hj : j < l.length
      · rw [if_pos (by rw [hcx]; exact hj)]
      · rw [if_neg (by rw [hcx]; exact hj), cget_none (by rw [hcx]; omega)]
        simp [cget]
    | cons _ _ => simp at h
  · rename_i ks l ks' x
    split at h
    · rename_i hk
      subst hk
      split at h
      · rename_i hm
        simp only [Option.some.injEq] at h
        subst h
        refine ⟨rfl, rfl, rfl, by simp [clen], fun j => ?_⟩
        have hcx : clen (EV.mix ks l) = l.length := rfl
        by_cases hj : j < l.length
        · rw [if_pos (by rw [hcx]; exact hj)]
          simp only [cget, key, if_pos hj]
        · rw [if_neg (by rw [hcx]; exact hj)]
          have e : kindAt ks j = kindAt ks (j - l.length) := by
            have := kindAt_add (j := j - l.length) hm
            rwa [show l.length + (j - l.length) = j by omega] at this
          simp only [cget, key, if_neg hj, clen, e]
      · simp at h
    · simp at h
  · rename_i ks l x
    split at h
    · simp only [Option.some.injEq] at h
      subst h
      refine ⟨rfl, rfl, rfl, by simp [clen], fun j => ?_⟩
      have hcx : clen (EV.mix ks l) = l.length := rfl
      by_cases hj : j < l.length
      · rw [if_pos (by rw [hcx]; exact hj)]
      · rw [if_neg (by rw [hcx]; exact hj), cget_none (by rw [hcx]; omega)]
        simp [cget]
    · split at h
      · rename_i y hy
        obtain ⟨h1, h2, h3⟩ := encC_get hy
        split at h
        · rename_i hm
          simp only [Option.some.injEq] at h
          subst h
          refine ⟨rfl, rfl, rfl, by simp [clen]; omega, fun j => ?_⟩
          have hcx : clen (EV.mix ks l) = l.length := rfl
          by_cases hj : j < l.length
          · rw [if_pos (by rw [hcx]; exact hj)]
            simp only [cget, key, if_pos hj]
          · rw [if_neg (by rw [hcx]; exact hj)]
            have e : kindAt ks j = kindAt ks (j - l.length) := by
              have := kindAt_add (j := j - l.length) hm
              rwa [show l.length + (j - l.length) = j by omega] at this
            simp only [cget, key, if_neg hj, clen, e, h3]
            by_cases hq : j - l.length < ks.length
            · rw [kindAt_lt hq]; rfl
            · rw [List.getElem?_eq_none (l := y) (by omega), List.getElem?_eq_none (l := ks) (by omega)]; rfl
        · simp at h
      · simp at h
  · rename_i ks l ks' x
    split at h
    · rename_i hk
      subst hk
      split at h
      · rename_i hm
        simp only [Option.some.injEq] at h
        subst h
        refine ⟨rfl, rfl, rfl, by simp [clen], fun j => ?_⟩
        have hcx : clen (EV.nest ks l) = l.length := rfl
        by_cases hj : j < l.length
        · rw [if_pos (by rw [hcx]; exact hj)]
          simp only [cget, key, if_pos hj]
        · rw [if_neg (by rw [hcx]; exact hj)]
          have e : kindN ks j = kindN ks (j - l.length) := by
            have h0 : l.length + (j - l.length) = j := by omega
            unfold kindN
            rw [← h0, Nat.add_mod, hm, Nat.zero_add, Nat.mod_mod, Nat.add_sub_cancel_left]
          simp only [cget, key, if_neg hj, clen, e]
      · simp at h
    · simp at h
  · rename_i ks l x
    split at h
    · simp only [Option.some.injEq] at h
      subst h
      refine ⟨rfl, rfl, rfl, by simp [clen], fun j => ?_⟩
      have hcx : clen (EV.nest ks l) = l.length := rfl
      by_cases hj : j < l.length
      · rw [if_pos (by rw [hcx]; exact hj)]
      · rw [if_neg (by rw [hcx]; exact hj), cget_none (by rw [hcx]; omega)]
        simp [cget]
    · simp at h
  · rename_i l k x
    cases l with
    | nil =>
      simp only [Option.some.injEq] at h
      subst h
      refine ⟨rfl, rfl, rfl, by simp [clen], fun j => by simp [cget, clen]⟩
    | cons _ _ => simp at h
  · rename_i l ks x
    cases l with
    | nil =>
      simp only [Option.some.injEq] at h
      subst h
      refine ⟨rfl, rfl, rfl, by simp [clen], fun j => by simp [cget, clen]⟩
    | cons _ _ => simp at h
  · rename_i l x
    cases l with
    | nil =>
      simp only [Option.some.injEq] at h
      subst h
      refine ⟨rfl, rfl, rfl, by simp [clen], fun j => by simp [cget, clen]⟩
    | cons e l =>
      simp only [Option.some.injEq] at h
      subst h
      refine ⟨rfl, rfl, rfl, by simp [clen]; omega, fun j => ?_⟩
      exact key (e :: l) x j

theorem ck_vr {ρ : RM} {k : CK} {n : Int} {v : Value} (h : k.is n v) : VR ρ (k.dec n) v := by
  rcases h with h | h
  · rw [h]; simp [CK.dec, VR]
  · rw [h]
    cases k <;> simp [VR, CK.dec, CK.val]
theorem nk_vr {ρ : RM} {k : NK} {n : NC} {v : Value} (h : k.is ρ.F n v) : VR ρ (k.dec n) v := by
  cases k <;> simp only [NK.is, NK.dec] at h ⊢
  · exact ck_vr h
  case pt a z b =>
    rcases h with ⟨h1, h2⟩ | ⟨h1, bl, base, h2, h3⟩
    · rw [if_pos h1]
      simpa only [VR] using h2
    · rw [if_neg h1]
      simp only [VR]
      exact ⟨bl, base, h2, ptR_cont.1 h3⟩
  all_goals
    simp only [VR]
    exact h.imp id fun ⟨b, base, cap, h1, h2, h3, h4⟩ => ⟨b, base, cap, h1, h2, h3, flat_cont h4⟩
theorem ck_of {ρ : RM} {k : CK} {n : Int} {v : Value} (h : VR ρ (k.dec n) v) : k.is n v := by
  cases k with
  | any => exact .inl rfl
  | int k => simp only [CK.dec, VR] at h; exact .inr h
  | bool => simp only [CK.dec, VR] at h; exact .inr h
theorem cont_flat {F : Nat → Option Obj} {k : NK} {x : List Int} {b base : Nat} (h : contR F (k.cont x) b base) : flatR F (k.cont x) b base := by
  cases k <;> first | exact h | exact h.elim
theorem nk_of {ρ : RM} {k : NK} {n : NC} {v : Value} (h : VR ρ (k.dec n) v) : k.is ρ.F n v := by
  cases k <;> simp only [NK.is, NK.dec] at h ⊢
  · exact ck_of h
  case pt a z b =>
    by_cases h1 : n.i = 0
    · rw [if_pos h1] at h
      simp only [VR] at h
      exact .inl ⟨h1, h⟩
    · rw [if_neg h1] at h
      simp only [VR] at h
      obtain ⟨bl, base, h2, h3⟩ := h
      exact .inr ⟨h1, bl, base, h2, ptR_cont.2 h3⟩
  all_goals
    simp only [VR] at h
    exact h.imp id fun ⟨b, base, cap, h1, h2, h3, h4⟩ => ⟨b, base, cap, h1, h2, h3, cont_flat h4⟩
/-- What stands in cells that stay as they are. -/
theorem cont_get {ρ : RM} {c : EV} {b base : Nat} (h : contR ρ.F c b base) : isAgg c = true ∧ ∀ (j : Nat) (e : EV), cget c j = some e → ∃ v, fcell ρ.F b (base + j) = some v ∧ v.oneCell' = true ∧ VR ρ e v := by
  cases c <;> simp only [contR, flatR] at h
  case ints k l =>
    refine ⟨rfl, fun j e hj => ?_⟩
    simp only [cget, Option.map_eq_some_iff] at hj
    obtain ⟨n, hn, rfl⟩ := hj
    exact ⟨_, h j n hn, rfl, by simp [VR]⟩
  case mix ks l =>
    refine ⟨rfl, fun j e hj => ?_⟩
    simp only [cget, Option.map_eq_some_iff] at hj
    obtain ⟨n, hn, rfl⟩ := hj
    obtain ⟨u, h1, h2, h3⟩ := h j n hn
    exact ⟨u, h1, h2, ck_vr h3⟩
  case nest ks l =>
    refine ⟨rfl, fun j e hj => ?_⟩
    simp only [cget, Option.map_eq_some_iff] at hj
    obtain ⟨n, hn, rfl⟩ := hj
    obtain ⟨u, h1, h2, h3⟩ := h j n hn
    exact ⟨u, h1, h2, nk_vr h3⟩
/-- Of an aggregate: the model's cells, one by one. -/
theorem VR_agg {ρ : RM} {x : EV} {v : Value} (h : VR ρ x v) (ha : isAgg x = true) :
    ∃ cs : List Value, v = .agg cs.toArray ∧ cs.length = clen x ∧ (∀ c ∈ cs, c.oneCell' = true) ∧ ∀ (j : Nat) (e : EV), cget x j = some e → ∃ u, cs[j]? = some u ∧ VR ρ e u := by
  cases x <;> simp [isAgg] at ha
  · rename_i k l
    simp only [VR] at h
    refine ⟨_, h, by simp [clen], fun c hc => ?_, fun j e hj => ?_⟩
    · obtain ⟨n, _, rfl⟩ := List.mem_map.1 hc
      rfl
    · simp only [cget, Option.map_eq_some_iff] at hj
      obtain ⟨n, hn, rfl⟩ := hj
      exact ⟨.int k n, by simp [hn], by simp [VR]⟩
  · rename_i ks l
    simp only [VR] at h
    obtain ⟨cs, rfl, hl, ho, hi⟩ := h
    refine ⟨cs, rfl, by simpa [clen] using hl, ho, fun j e hj => ?_⟩
    simp only [cget, Option.map_eq_some_iff] at hj
    obtain ⟨n, hn, rfl⟩ := hj
    have hlt : j < cs.length := by rw [hl]; exact (List.getElem?_eq_some_iff.1 hn).1
    refine ⟨cs[j], List.getElem?_eq_getElem hlt, ?_⟩
    rcases hi j n cs[j] hn (List.getElem?_eq_getElem hlt) with h | h
    · rw [h]; simp [CK.dec, VR]
    · rw [h]
      cases kindAt ks j <;> simp [VR, CK.dec, CK.val]
  · rename_i ks l
    simp only [VR] at h
    obtain ⟨cs, rfl, hl, ho, hi⟩ := h
    refine ⟨cs, rfl, by simpa [clen] using hl, ho, fun j e hj => ?_⟩
    simp only [cget, Option.map_eq_some_iff] at hj
    obtain ⟨n, hn, rfl⟩ := hj
    have hlt : j < cs.length := by rw [hl]; exact (List.getElem?_eq_some_iff.1 hn).1
    exact ⟨cs[j], List.getElem?_eq_getElem hlt, nk_vr (hi j n cs[j] hn (List.getElem?_eq_getElem hlt))⟩
  · rename_i l
    simp only [VR] at h
    obtain ⟨cs, rfl, hl, hc⟩ := h
    refine ⟨cs, rfl, by simpa [clen] using VRs_length hl, hc, fun j e hj => ?_⟩
    simp only [cget] at hj
    exact VRs_get hl j e hj
theorem VR_agg_mk {ρ : RM} {x : EV} (ha : isAgg x = true) {cs : List Value} (hl : cs.length = clen x) (hc : ∀ c ∈ cs, c.oneCell' = true)
    (h : ∀ (j : Nat) (e : EV), cget x j = some e → ∃ u, cs[j]? = some u ∧ VR ρ e u) : VR ρ x (.agg cs.toArray) := by
  cases x <;> simp [isAgg] at ha
  · rename_i k l
    simp only [VR]
    congr 2
    refine List.ext_getElem? fun j => ?_
    by_cases hj : j < l.length
    · obtain ⟨u, hu, hr⟩ := h j (.int k l[j]) (by simp [cget, hj])
      simp only [VR] at hr
      rw [hu, hr]
      simp [hj]
    · rw [List.getElem?_eq_none (by simp [clen] at hl; omega), List.getElem?_eq_none (by simp; omega)]
  · rename_i ks l
    simp only [VR]
    refine ⟨cs, rfl, by simpa [clen] using hl, hc, fun j n c hn hcj => ?_⟩
    obtain ⟨u, hu, hr⟩ := h j ((kindAt ks j).dec n) (by simp [cget, hn])
    rw [hcj] at hu
    cases hu
    cases hk : kindAt ks j with
    | any => exact .inl rfl
    | int k => rw [hk] at hr; simp only [CK.dec, VR] at hr; exact .inr hr
    | bool => rw [hk] at hr; simp only [CK.dec, VR] at hr; exact .inr hr
  · rename_i ks l
    simp only [VR]
    refine ⟨cs, rfl, by simpa [clen] using hl, hc, fun j n c hn hcj => ?_⟩
    obtain ⟨u, hu, hr⟩ := h j ((kindN ks j).dec n) (by simp [cget, hn])
    rw [hcj] at hu
    cases hu
    exact nk_of hr
  · rename_i l
    simp only [VR]
    exact ⟨cs, rfl, VRs_mk (by simpa [clen] using hl) (fun (j : Nat) (e : EV) hj => h j e (by simpa [cget] using hj)), hc⟩
/-- Of a value of one cell. -/
theorem VR_scalar {ρ : RM} {x : EV} {v : Value} (h : VR ρ x v) (hs : isScalar x = true) : v.oneCell' = true := by
  cases x <;> simp [isScalar] at hs <;> simp only [VR] at h
  case bool => subst h; rfl
  case int => subst h; rfl
  case str => subst h; rfl
  case nilp => subst h; rfl
  case ptr => obtain ⟨a, rfl, _⟩ := h; rfl
  case nils => subst h; rfl
  case slice => obtain ⟨a, c, rfl, _⟩ := h; rfl
  case ro => rcases h with ⟨⟨q, rfl⟩, _⟩ | ⟨b, base, cap, rfl, _⟩ <;> rfl
  case rp => obtain ⟨b, base, rfl, _⟩ := h; rfl
  case fn => obtain ⟨a, c, rfl, _⟩ := h; rfl
  case nilf => subst h; rfl
/-- A known value's cells. -/
theorem VR_cells {ρ : RM} {x : EV} {v : Value} (h : VR ρ x v) (hs : isAgg x = true ∨ isScalar x = true) :
    v.cells.toList.length = clen x ∧ (∀ c ∈ v.cells.toList, c.oneCell' = true) ∧ ∀ (j : Nat) (e : EV), (cells x)[j]? = some e → ∃ u, v.cells.toList[j]? = some u ∧ VR ρ e u := by
  rcases hs with hs | hs
  · obtain ⟨cs, rfl, hl, hc, hg⟩ := VR_agg h hs
    refine ⟨by simpa [Value.cells] using hl, by simpa [Value.cells] using hc, fun j e hj => ?_⟩
    rw [cells_get hs] at hj
    obtain ⟨u, hu, hr⟩ := hg j e hj
    exact ⟨u, by simpa [Value.cells] using hu, hr⟩
  · have h1 := VR_scalar h hs
    have hcl : clen x = 1 ∧ cells x = [x] := by cases x <;> simp [isScalar] at hs <;> exact ⟨rfl, rfl⟩
    have hv : v.cells = #[v] := by cases v <;> simp [Value.oneCell'] at h1 <;> rfl
    rw [hv, hcl.1, hcl.2]
    refine ⟨rfl, by simpa using h1, fun j e hj => ?_⟩
    cases j with
    | zero => simp at hj; subst hj; exact ⟨v, rfl, h⟩
    | succ j => simp at hj

/-! ### Rows and heaps -/
/-- The cells of c, as 'get' finds them. -/
def CR (ρ : RM) (c : EV) (get : Nat → Option Value) : Prop := isAgg c = true ∧ ∀ j e, cget c j = some e → ∃ v, get j = some v ∧ v.oneCell' = true ∧ VR ρ e v
def RowR (ρ : RM) (row : Row) (L : Loc) (w : World) : Prop :=
  clen row.c ≤ L.room ∧
  if row.own then L.base = 0 ∧ ∃ (c : Array Value) (t : TypeId), w.heap[L.block]? = some (.cells c t (0, 0)) ∧ L.room ≤ c.size ∧ CR ρ row.c (fun j => c[j]?)
  else CR ρ row.c (fun j => w.cell? ⟨L.block, L.base + j, none⟩)

/-- Nothing of the world at the entry has turned but the blocks of S. -/
structure Fr (w0 : World) (S : List Nat) (w : World) : Prop where
  os : w.os = w0.os
  tape : w.tape = w0.tape
  output : w.output = w0.output
  size : w0.heap.size ≤ w.heap.size
  block : ∀ b, b < w0.heap.size → b ∉ S → w.heap[b]? = w0.heap[b]?
theorem Fr.refl (w : World) (S : List Nat) : Fr w S w := ⟨rfl, rfl, rfl, Nat.le_refl _, fun _ _ _ => rfl⟩

structure HR (w0 : World) (S : List Nat) (ρ : RM) (h : List Row) (w : World) : Prop where
  out : ∀ i, h[i]? = none → ρ i = none
  rows : ∀ (i : Nat) (row : Row), h[i]? = some row → (row.c = .unk ∧ ρ i = (if row.own then some none else none)) ∨ ∃ L, ρ i = some (some L) ∧ RowR ρ row L w
  lt : ∀ (i : Nat) L, ρ i = some (some L) → L.block < w.heap.size
  own : ∀ (i : Nat) (row : Row) L, h[i]? = some row → row.own = true → ρ i = some (some L) → L.block ∈ S ∨ w0.heap.size ≤ L.block
  apart : ∀ (i j : Nat) (ri : Row) Li Lj, h[i]? = some ri → i ≠ j → ri.own = true → ρ i = some (some Li) → ρ j = some (some Lj) → Li.block ≠ Lj.block
  frame : Fr w0 S w
  froz : ∀ b o, ρ.F b = some o → w.heap[b]? = some o
  ice : ∀ (i : Nat) (row : Row) L, h[i]? = some row → row.own = true → ρ i = some (some L) → ρ.F L.block = none
  cold : ∀ b o, ρ.F b = some o → ρ.F0 b ∨ b ∈ S ∨ w0.heap.size ≤ b

theorem CR_mono0 {ρ ρ' : RM} (h : le0 ρ ρ') {c : EV} {get : Nat → Option Value} (hc : CR ρ c get) : CR ρ' c get :=
  ⟨hc.1, fun j e hj => let ⟨v, h1, h2, h3⟩ := hc.2 j e hj; ⟨v, h1, h2, VR_mono0 h e v h3⟩⟩
theorem CR_mono {ρ ρ' : RM} (h : le ρ ρ') {c : EV} {get : Nat → Option Value} (hc : CR ρ c get) : CR ρ' c get := CR_mono0 ⟨h.1, h.2.1⟩ hc

theorem HR.live {w0 : World} {S : List Nat} {ρ : RM} {h : List Row} {w : World} (hh : HR w0 S ρ h w) {i : Nat} {row : Row} (hi : h[i]? = some row) (ha : isAgg row.c = true) : ∃ L, ρ i = some (some L) ∧ RowR ρ row L w := by
  rcases hh.rows i row hi with ⟨hu, _⟩ | h
  · rw [hu] at ha; simp [isAgg] at ha
  · exact h

/-- A live row is read. -/
theorem RowR.read {ρ : RM} {row : Row} {L : Loc} {w : World} (h : RowR ρ row L w) : CR ρ row.c (fun j => w.cell? ⟨L.block, L.base + j, none⟩) := by
  obtain ⟨_, h⟩ := h
  split at h
  · obtain ⟨hb, c, t, hc, _, hr⟩ := h
    refine ⟨hr.1, fun j e hj => ?_⟩
    obtain ⟨v, h1, h2, h3⟩ := hr.2 j e hj
    refine ⟨v, ?_, h2, h3⟩
    simpa [World.cell?, hc, hb] using h1
  · exact h

/-- A world in which the rows' blocks are as they were. -/
theorem RowR.same {ρ : RM} {row : Row} {L : Loc} {w w' : World} (h : RowR ρ row L w) (e : w'.heap[L.block]? = w.heap[L.block]?) : RowR ρ row L w' := by
  obtain ⟨hz, h⟩ := h
  refine ⟨hz, ?_⟩
  split at h
  · obtain ⟨hb, c, t, hc, h2, hr⟩ := h
    rw [if_pos (by assumption)]
    exact ⟨hb, c, t, e.trans hc, h2, hr⟩
  · rw [if_neg (by assumption)]
    refine ⟨h.1, fun j x hj => ?_⟩
    obtain ⟨v, h1, h2⟩ := h.2 j x hj
    refine ⟨v, ?_, h2⟩
    simpa [World.cell?, e] using h1
theorem RowR.mono0 {ρ ρ' : RM} {row : Row} {L : Loc} {w : World} (h : RowR ρ row L w) (hl : le0 ρ ρ') : RowR ρ' row L w := by
  obtain ⟨hz, h⟩ := h
  refine ⟨hz, ?_⟩
  split at h
  · obtain ⟨hb, c, t, hc, h2, hr⟩ := h
    rw [if_pos (by assumption)]
    exact ⟨hb, c, t, hc, h2, CR_mono0 hl hr⟩
  · rw [if_neg (by assumption)]
    exact CR_mono0 hl h

theorem RowR.mono {ρ ρ' : RM} {row : Row} {L : Loc} {w : World} (h : RowR ρ row L w) (hl : le ρ ρ') : RowR ρ' row L w := h.mono0 ⟨hl.1, hl.2.1⟩
/-- What was frozen at the entry, said otherwise. -/
theorem HR.refz {w0 w : World} {S : List Nat} {ρ : RM} {h : List Row} (hh : HR w0 S ρ h w) {F0 : Nat → Prop} (hc : ∀ b o, ρ.F b = some o → F0 b ∨ b ∈ S ∨ w0.heap.size ≤ b) : HR w0 S ⟨ρ.at_, ρ.F, F0⟩ h w :=
  ⟨hh.out, fun i r hi => (hh.rows i r hi).imp id fun ⟨L, h1, h2⟩ => ⟨L, h1, h2.mono0 ⟨fun _ _ h => .inl h, leF_refl _⟩⟩, hh.lt, hh.own, hh.apart, hh.frame, hh.froz, hh.ice, hc⟩

end Go.Sx
