/-
  How the abstract machine's values, rows and frames stand to the model's. Conditions: none.
-/
import Derived.Test.YtlbfafbhflblcaaSxB
import Derived.ArgAppend
namespace Go.Sx
open Go
set_option linter.unusedVariables false
structure Loc where
  block : Nat
  base : Nat
  room : Nat
  sub : Nat → Nat
structure RM where
  at_ : Nat → Option (Option Loc)
  F : Nat → Option Obj
  F0 : Nat → Prop
instance : CoeFun RM (fun _ => Nat → Option (Option Loc)) := ⟨RM.at_⟩
def leF (A B : Nat → Option Obj) : Prop := ∀ b o, A b = some o → B b = some o
def le (ρ ρ' : RM) : Prop := (∀ r l, ρ r = some l → ρ' r = some l ∨ ρ' r = some none) ∧ leF ρ.F ρ'.F ∧ ρ'.F0 = ρ.F0
def le0 (ρ ρ' : RM) : Prop := (∀ r l, ρ r = some l → ρ' r = some l ∨ ρ' r = some none) ∧ leF ρ.F ρ'.F
def subF (A B : Nat → Option Obj) : Prop := ∀ b o, A b = some o → B b = some o
theorem leF.sub {A B : Nat → Option Obj} (h : leF A B) : subF A B := h
theorem Zae (A : Nat → Option Obj) : leF A A := fun _ _ h => h
def RM.none (F : Nat → Option Obj) : RM := ⟨fun _ => .none, F, fun b => ∃ o, F b = some o⟩
def CK.val : CK → Int → Value
  | .int k, n => .int k n
  | .bool, n => .bool (!decide (n = 0))
  | .any, _ => .bool false
def CK.is (k : CK) (n : Int) (v : Value) : Prop := k = .any ∨ v = k.val n
def Zn6 (ks : List CK) (l : List Int) (cs : List Value) : Prop := cs.length = l.length ∧ (∀ c ∈ cs, c.oneCell' = true) ∧ ∀ (j : Nat) (n : Int) (c : Value), l[j]? = some n → cs[j]? = some c → (Zad ks j).is n c
def fcell (F : Nat → Option Obj) (b j : Nat) : Option Value := match F b with
  | some (.cells c _ _) => c[j]?
  | _ => none
theorem ZcV {A B : Nat → Option Obj} (h : subF A B) {b j : Nat} {v : Value} (hv : fcell A b j = some v) : fcell B b j = some v := by
  unfold fcell at hv ⊢
  split at hv
  · rename_i c _ _ e
    rw [h _ _ e]
    exact hv
  · cases hv
def ZdW (F : Nat → Option Obj) (c : EV) (b base : Nat) : Prop := match c with
  | .ints k l => ∀ (j : Nat) (n : Int), l[j]? = some n → fcell F b (base + j) = some (.int k n)
  | .mix ks l => ∀ (j : Nat) (n : Int), l[j]? = some n → ∃ u, fcell F b (base + j) = some u ∧ u.oneCell' = true ∧ (Zad ks j).is n u
  | _ => False
theorem Zh6 {A B : Nat → Option Obj} (h : subF A B) {c : EV} {b base : Nat} (hc : ZdW A c b base) : ZdW B c b base := by
  cases c <;> simp only [ZdW] at hc ⊢
  · exact fun j n hn => ZcV h (hc j n hn)
  · exact fun j n hn => let ⟨u, h1, h2⟩ := hc j n hn; ⟨u, ZcV h h1, h2⟩
def ZmI (v : Value) : Prop := ∃ q : Option Addr, v = .slice q 0 0
def ZdA (F : Nat → Option Obj) (c : EV) (n z : Nat) (v : Value) : Prop :=
  (ZmI v ∧ n = 0) ∨ ∃ b base cap, v = .slice (some ⟨b, base, none⟩) n cap ∧ n ≤ cap ∧ n * z ≤ clen c ∧ ZdW F c b base
theorem ZcW {A B : Nat → Option Obj} (h : subF A B) {c : EV} {n z : Nat} {v : Value} (hc : ZdA A c n z v) : ZdA B c n z v :=
  hc.imp id fun ⟨b, base, cap, h1, h2, h3, h4⟩ => ⟨b, base, cap, h1, h2, h3, Zh6 h h4⟩
def NK.is0 (F : Nat → Option Obj) : NK → NC → Value → Prop
  | .c k, x, v => k.is x.i v
  | .pt _ _ _, _, _ => False
  | k, x, v => ZdA F (k.cont x.l) (many k.sz x.l) k.sz v
theorem NK.is0_le {A B : Nat → Option Obj} (h : subF A B) {k : NK} {x : NC} {v : Value} (hc : k.is0 A x v) : k.is0 B x v := by
  cases k <;> simp only [NK.is0] at hc ⊢
  · exact hc
  · exact ZcW h hc
  · exact ZcW h hc
def ptR (F : Nat → Option Obj) (a z b : Nat) (l : List Int) (bl base : Nat) : Prop := ∀ (j : Nat) (x : NC), (ptL a b l)[j]? = some x → ∃ u, fcell F bl (base + j) = some u ∧ u.oneCell' = true ∧ (Z8 (ptK a z b) j).is0 F x u
def NK.is (F : Nat → Option Obj) : NK → NC → Value → Prop
  | .c k, x, v => k.is x.i v
  | .pt a z b, x, v => (x.i = 0 ∧ v = .pointer none) ∨ (¬ x.i = 0 ∧ ∃ bl base, v = .pointer (some ⟨bl, base, none⟩) ∧ ptR F a z b x.l bl base)
  | k, x, v => ZdA F (k.cont x.l) (many k.sz x.l) k.sz v
theorem ZlC (a z b j : Nat) : Z8 (ptK a z b) j = .c (.int .i64) ∨ Z8 (ptK a z b) j = .si .i64 z := by
  have hl : (ptK a z b).length = a + (b + 1) := by simp [ptK]
  have hj : j % (ptK a z b).length < (ptK a z b).length := Nat.mod_lt _ (by omega)
  have hm : Z8 (ptK a z b) j ∈ ptK a z b := by
    unfold Z8
    rw [List.getD_eq_getElem?_getD, List.getElem?_eq_getElem hj]
    exact List.getElem_mem _
  simp only [ptK, List.mem_append, List.mem_cons, List.mem_replicate] at hm
  rcases hm with ⟨_, h⟩ | h | ⟨_, h⟩
  · exact .inl h
  · exact .inr h
  · exact .inl h
theorem ZjN (F : Nat → Option Obj) (a z b j : Nat) (x : NC) (v : Value) : (Z8 (ptK a z b) j).is F x v ↔ (Z8 (ptK a z b) j).is0 F x v := by
  rcases ZlC a z b j with h | h <;> rw [h] <;> exact Iff.rfl
theorem NK.is_le {A B : Nat → Option Obj} (h : subF A B) {k : NK} {x : NC} {v : Value} (hc : k.is A x v) : k.is B x v := by
  cases k <;> simp only [NK.is] at hc ⊢
  · exact hc
  · exact ZcW h hc
  · exact ZcW h hc
  · exact hc.imp id fun ⟨h1, bl, base, h2, h3⟩ => ⟨h1, bl, base, h2, fun j x hx => let ⟨u, e1, e2, e3⟩ := h3 j x hx; ⟨u, ZcV h e1, e2, NK.is0_le h e3⟩⟩
def ZjO (F : Nat → Option Obj) (ks : List NK) (l : List NC) (cs : List Value) : Prop := cs.length = l.length ∧ (∀ c ∈ cs, c.oneCell' = true) ∧ ∀ (j : Nat) (n : NC) (c : Value), l[j]? = some n → cs[j]? = some c → (Z8 ks j).is F n c
theorem Zej {A B : Nat → Option Obj} (h : subF A B) {ks : List NK} {l : List NC} {cs : List Value} (hc : ZjO A ks l cs) : ZjO B ks l cs :=
  ⟨hc.1, hc.2.1, fun j n c h1 h2 => NK.is_le h (hc.2.2 j n c h1 h2)⟩
def Zcv (F : Nat → Option Obj) (c : EV) (b base : Nat) : Prop := match c with
  | .nest ks l => ∀ (j : Nat) (x : NC), l[j]? = some x → ∃ u, fcell F b (base + j) = some u ∧ u.oneCell' = true ∧ (Z8 ks j).is F x u
  | c => ZdW F c b base
theorem Zh7 {A B : Nat → Option Obj} (h : subF A B) {c : EV} {b base : Nat} (hc : Zcv A c b base) : Zcv B c b base := by
  cases c <;> simp only [Zcv] at hc ⊢
  case nest ks l => exact fun j n hn => let ⟨u, h1, h2, h3⟩ := hc j n hn; ⟨u, ZcV h h1, h2, NK.is_le h h3⟩
  all_goals exact Zh6 h hc
theorem Zh8 {F : Nat → Option Obj} {a z b : Nat} {l : List Int} {bl base : Nat} : ptR F a z b l bl base ↔ Zcv F (.nest (ptK a z b) (ptL a b l)) bl base := by
  constructor
  · intro h j x hx
    obtain ⟨u, h1, h2, h3⟩ := h j x hx
    exact ⟨u, h1, h2, (ZjN F a z b j x u).2 h3⟩
  · intro h j x hx
    obtain ⟨u, h1, h2, h3⟩ := h j x hx
    exact ⟨u, h1, h2, (ZjN F a z b j x u).1 h3⟩
def roR (F : Nat → Option Obj) (c : EV) (n z : Nat) (v : Value) : Prop :=
  (ZmI v ∧ n = 0) ∨ ∃ b base cap, v = .slice (some ⟨b, base, none⟩) n cap ∧ n ≤ cap ∧ n * z ≤ clen c ∧ Zcv F c b base
def rpR (F : Nat → Option Obj) (c : EV) (o : Nat) (v : Value) : Prop := ∃ b base, v = .pointer (some ⟨b, base + o, none⟩) ∧ Zcv F c b base
theorem ZjP {A B : Nat → Option Obj} (h : subF A B) {c : EV} {n z : Nat} {v : Value} (hc : roR A c n z v) : roR B c n z v :=
  hc.imp id fun ⟨b, base, cap, h1, h2, h3, h4⟩ => ⟨b, base, cap, h1, h2, h3, Zh7 h h4⟩
theorem ZjQ {A B : Nat → Option Obj} (h : subF A B) {c : EV} {o : Nat} {v : Value} (hc : rpR A c o v) : rpR B c o v :=
  let ⟨b, base, h1, h2⟩ := hc; ⟨b, base, h1, Zh7 h h2⟩
theorem Zgs {F : Nat → Option Obj} {c : EV} {b base : Nat} (h : ZdW F c b base) : Zcv F c b base := by
  cases c <;> simp only [ZdW] at h <;> exact h
theorem Zcf {α : Type} {l : List α} {m j : Nat} {x : α} (h : (l.take m)[j]? = some x) : l[j]? = some x := by
  rw [List.getElem?_take] at h
  split at h
  · exact h
  · cases h
theorem ZiY {F : Nat → Option Obj} {c : EV} {b base m : Nat} (h : Zcv F c b base) : Zcv F (Ze8 c m) b base := by
  cases c <;> simp only [Zcv, ZdW, Ze8] at h ⊢
  · exact fun j n hn => h j n (Zcf hn)
  · exact fun j n hn => h j n (Zcf hn)
  · exact fun j n hn => h j n (Zcf hn)
theorem ZjR {F : Nat → Option Obj} {c : EV} {b base m : Nat} (h : Zcv F c b base) (hm : m ≤ clen c) : clen (Ze8 c m) = m := by
  cases c <;> simp only [Zcv, ZdW, clen, Ze8, List.length_take] at h hm ⊢ <;> first | omega | exact h.elim
theorem Zgt (ks : List NK) (l : List NC) (j : Nat) : (Zhm ks l)[j]? = (l[j]?).map (Z8 ks j).dec := by
  unfold Zhm; rw [List.getElem?_mapIdx]
theorem ZcX (ks : List NK) (l : List NC) : (Zhm ks l).length = l.length := by simp [Zhm]
theorem Zh9 (ks : List CK) (l : List Int) (j : Nat) : (mixC ks l)[j]? = (l[j]?).map (Zad ks j).dec := by
  unfold mixC; rw [List.getElem?_mapIdx]
theorem ZdY (ks : List CK) (l : List Int) : (mixC ks l).length = l.length := by simp [mixC]
def fnOf (f : Nat) : Fn := if f < yld then .func f else .yield (f - yld)
theorem ZcY {f : Nat} (h : f < yld) : fnOf f = .func f := if_pos h
mutual
def VR (ρ : RM) : EV → Value → Prop
  | .unk, _ => True
  | .bool b, v => v = .bool b
  | .int k n, v => v = .int k n
  | .str s, v => v = .string ⟨s.toArray⟩
  | .nilp, v => v = .pointer none
  | .ptr r o, v => ∃ a, v = .pointer (some a) ∧ ∃ l, ρ r = some l ∧ ∀ L, l = some L → a = ⟨L.block, L.base + o, none⟩
  | .nils, v => v = .slice none 0 0
  | .slice r o n z, v => ∃ a cap, v = .slice (some a) n cap ∧ n ≤ cap ∧ ∃ l, ρ r = some l ∧ ∀ L, l = some L → (cap ≠ 0 → a = ⟨L.block, L.base + o, none⟩) ∧ o + cap * z ≤ L.room
  | .ints k l, v => v = .agg (l.map (Value.int k)).toArray
  | .mix ks l, v => ∃ cs : List Value, v = .agg cs.toArray ∧ Zn6 ks l cs
  | .nest ks l, v => ∃ cs : List Value, v = .agg cs.toArray ∧ ZjO ρ.F ks l cs
  | .ro c n z, v => roR ρ.F c n z v
  | .rp c o, v => rpR ρ.F c o v
  | .agg l, v => ∃ cs : List Value, v = .agg cs.toArray ∧ VRs ρ l cs ∧ ∀ c ∈ cs, c.oneCell' = true
  | .tup l, v => ∃ cs : List Value, v = .tuple cs.toArray ∧ VRs ρ l cs
  | .fn f a b, v => ∃ x y : List Value, v = .func (fnOf f) x.toArray y.toArray ∧ VRs ρ a x ∧ VRs ρ b y
  | .nilf, v => v = .nilFunc
  | .tree _ _, _ => False
  | .tp r i, v => ∃ a, v = .pointer (some a) ∧ ∃ l, ρ r = some l ∧ ∀ L, l = some L → a = ⟨L.sub i, 0, none⟩
def VRs (ρ : RM) : List EV → List Value → Prop
  | [], vs => vs = []
  | e :: l, vs => ∃ v r, vs = v :: r ∧ VR ρ e v ∧ VRs ρ l r
end
theorem le_refl (ρ : RM) : le ρ ρ := ⟨fun _ _ h => .inl h, Zae _, rfl⟩
theorem le_trans {a b c : RM} (h : le a b) (k : le b c) : le a c := ⟨fun r l hr => by
  rcases h.1 r l hr with h | h
  · exact k.1 r l h
  · rcases k.1 r none h with h | h <;> exact .inr h, fun b o hb => k.2.1 b o (h.2.1 b o hb), k.2.2.trans h.2.2⟩
mutual
theorem Zgu {ρ ρ' : RM} {σ : Nat → Option Nat} (h : (∀ r s l, σ r = some s → ρ r = some l → ρ' s = some l ∨ ρ' s = some none) ∧ leF ρ.F ρ'.F) : ∀ (e : EV) (v : Value), VR ρ e v → VR ρ' (ren σ e) v
  | .unk, v, _ => by simp [ren, VR]
  | .bool b, v, hv => by simpa [ren, VR] using hv
  | .int k n, v, hv => by simpa [ren, VR] using hv
  | .str s, v, hv => by simpa [ren, VR] using hv
  | .nilp, v, hv => by simpa [ren, VR] using hv
  | .ptr r o, v, hv => by
    simp only [VR] at hv
    obtain ⟨a, rfl, l, hl, ha⟩ := hv
    cases hs : σ r with
    | none => simp [ren, hs, VR]
    | some s =>
      simp only [ren, hs, VR]
      rcases h.1 r s l hs hl with h' | h'
      · exact ⟨a, rfl, l, h', ha⟩
      · exact ⟨a, rfl, none, h', fun _ hn => by cases hn⟩
  | .nils, v, hv => by simpa [ren, VR] using hv
  | .slice r o n z, v, hv => by
    simp only [VR] at hv
    obtain ⟨a, cap, rfl, hn, l, hl, ha⟩ := hv
    cases hs : σ r with
    | none => simp [ren, hs, VR]
    | some s =>
      simp only [ren, hs, VR]
      rcases h.1 r s l hs hl with h' | h'
      · exact ⟨a, cap, rfl, hn, l, h', ha⟩
      · exact ⟨a, cap, rfl, hn, none, h', fun _ hn => by cases hn⟩
  | .ints k l, v, hv => by simpa [ren, VR] using hv
  | .mix ks l, v, hv => by simpa [ren, VR] using hv
  | .nest ks l, v, hv => by
    simp only [ren, VR] at hv ⊢
    obtain ⟨cs, h1, h2⟩ := hv
    exact ⟨cs, h1, Zej h.2.sub h2⟩
  | .ro c n z, v, hv => by
    simp only [ren, VR] at hv ⊢
    exact ZjP h.2.sub hv
  | .rp c o, v, hv => by
    simp only [ren, VR] at hv ⊢
    exact ZjQ h.2.sub hv
  | .agg l, v, hv => by
    simp only [VR] at hv
    obtain ⟨cs, rfl, hl, hc⟩ := hv
    simp only [ren, VR]
    exact ⟨cs, rfl, ZcG h l cs hl, hc⟩
  | .tup l, v, hv => by
    simp only [VR] at hv
    obtain ⟨cs, rfl, hl⟩ := hv
    simp only [ren, VR]
    exact ⟨cs, rfl, ZcG h l cs hl⟩
  | .fn f a b, v, hv => by
    simp only [VR] at hv
    obtain ⟨x, y, rfl, hx, hy⟩ := hv
    simp only [ren, VR]
    exact ⟨x, y, rfl, ZcG h a x hx, ZcG h b y hy⟩
  | .nilf, v, hv => by simpa [ren, VR] using hv
  | .tree _ _, v, hv => by simp [VR] at hv
  | .tp r i, v, hv => by
    simp only [VR] at hv
    obtain ⟨a, rfl, l, hl, ha⟩ := hv
    cases hs : σ r with
    | none => simp [ren, hs, VR]
    | some s =>
      simp only [ren, hs, VR]
      rcases h.1 r s l hs hl with h' | h'
      · exact ⟨a, rfl, l, h', ha⟩
      · exact ⟨a, rfl, none, h', fun _ hn => by cases hn⟩
theorem ZcG {ρ ρ' : RM} {σ : Nat → Option Nat} (h : (∀ r s l, σ r = some s → ρ r = some l → ρ' s = some l ∨ ρ' s = some none) ∧ leF ρ.F ρ'.F) : ∀ (l : List EV) (vs : List Value), VRs ρ l vs → VRs ρ' (renL σ l) vs
  | [], vs, hv => by simpa [renL, VRs] using hv
  | e :: l, vs, hv => by
    simp only [VRs] at hv
    obtain ⟨v, r, rfl, h1, h2⟩ := hv
    simp only [renL, VRs]
    exact ⟨v, r, rfl, Zgu h e v h1, ZcG h l r h2⟩
end
mutual
theorem Zcg {ρ ρ' : RM} (h : le0 ρ ρ') : ∀ (e : EV) (v : Value), VR ρ e v → VR ρ' e v
  | .unk, v, _ => by simp [VR]
  | .bool b, v, hv => by simpa [VR] using hv
  | .int k n, v, hv => by simpa [VR] using hv
  | .str s, v, hv => by simpa [VR] using hv
  | .nilp, v, hv => by simpa [VR] using hv
  | .ptr r o, v, hv => by
    simp only [VR] at hv ⊢
    obtain ⟨a, rfl, l, hl, ha⟩ := hv
    rcases h.1 r l hl with h' | h'
    · exact ⟨a, rfl, l, h', ha⟩
    · exact ⟨a, rfl, none, h', fun _ hn => by cases hn⟩
  | .nils, v, hv => by simpa [VR] using hv
  | .slice r o n z, v, hv => by
    simp only [VR] at hv ⊢
    obtain ⟨a, cap, rfl, hn, l, hl, ha⟩ := hv
    rcases h.1 r l hl with h' | h'
    · exact ⟨a, cap, rfl, hn, l, h', ha⟩
    · exact ⟨a, cap, rfl, hn, none, h', fun _ hn => by cases hn⟩
  | .ints k l, v, hv => by simpa [VR] using hv
  | .mix ks l, v, hv => by simpa [VR] using hv
  | .nest ks l, v, hv => by
    simp only [VR] at hv ⊢
    obtain ⟨cs, h1, h2⟩ := hv
    exact ⟨cs, h1, Zej h.2 h2⟩
  | .ro c n z, v, hv => by
    simp only [VR] at hv ⊢
    exact ZjP h.2 hv
  | .rp c o, v, hv => by
    simp only [VR] at hv ⊢
    exact ZjQ h.2 hv
  | .agg l, v, hv => by
    simp only [VR] at hv ⊢
    obtain ⟨cs, rfl, hl, hc⟩ := hv
    exact ⟨cs, rfl, ZbZ h l cs hl, hc⟩
  | .tup l, v, hv => by
    simp only [VR] at hv ⊢
    obtain ⟨cs, rfl, hl⟩ := hv
    exact ⟨cs, rfl, ZbZ h l cs hl⟩
  | .fn f a b, v, hv => by
    simp only [VR] at hv ⊢
    obtain ⟨x, y, rfl, hx, hy⟩ := hv
    exact ⟨x, y, rfl, ZbZ h a x hx, ZbZ h b y hy⟩
  | .nilf, v, hv => by simpa [VR] using hv
  | .tree _ _, v, hv => by simp [VR] at hv
  | .tp r i, v, hv => by
    simp only [VR] at hv ⊢
    obtain ⟨a, rfl, l, hl, ha⟩ := hv
    rcases h.1 r l hl with h' | h'
    · exact ⟨a, rfl, l, h', ha⟩
    · exact ⟨a, rfl, none, h', fun _ hn => by cases hn⟩
theorem ZbZ {ρ ρ' : RM} (h : le0 ρ ρ') : ∀ (l : List EV) (vs : List Value), VRs ρ l vs → VRs ρ' l vs
  | [], vs, hv => by simpa [VRs] using hv
  | e :: l, vs, hv => by
    simp only [VRs] at hv ⊢
    obtain ⟨v, r, rfl, h1, h2⟩ := hv
    exact ⟨v, r, rfl, Zcg h e v h1, ZbZ h l r h2⟩
end
theorem ZcH {ρ ρ' : RM} (h : le ρ ρ') (e : EV) (v : Value) (hv : VR ρ e v) : VR ρ' e v := Zcg ⟨h.1, h.2.1⟩ e v hv
theorem Zbp {ρ : RM} : ∀ {l : List EV} {vs : List Value}, VRs ρ l vs → vs.length = l.length
  | [], vs, h => by simp only [VRs] at h; subst h; rfl
  | e :: l, vs, h => by
    simp only [VRs] at h
    obtain ⟨v, r, rfl, _, h2⟩ := h
    simp [Zbp h2]
theorem Zek {ρ : RM} : ∀ {l : List EV} {vs : List Value}, VRs ρ l vs → ∀ (j : Nat) (e : EV), l[j]? = some e → ∃ v, vs[j]? = some v ∧ VR ρ e v
  | [], vs, h, j, e, hj => by simp at hj
  | x :: l, vs, h, j, e, hj => by
    simp only [VRs] at h
    obtain ⟨v, r, rfl, h1, h2⟩ := h
    cases j with
    | zero => simp at hj; subst hj; exact ⟨v, rfl, h1⟩
    | succ j =>
      simp at hj
      obtain ⟨u, hu, hr⟩ := Zek h2 j e hj
      exact ⟨u, by simpa using hu, hr⟩
theorem Zgv {ρ : RM} : ∀ {l : List EV} {vs : List Value}, vs.length = l.length → (∀ (j : Nat) (e : EV), l[j]? = some e → ∃ v, vs[j]? = some v ∧ VR ρ e v) → VRs ρ l vs
  | [], vs, hl, h => by simp only [VRs]; exact List.length_eq_zero_iff.1 hl
  | e :: l, [], hl, h => by simp at hl
  | e :: l, v :: r, hl, h => by
    simp only [VRs]
    refine ⟨v, r, rfl, ?_, Zgv (by simpa using hl) fun j x hj => ?_⟩
    · obtain ⟨u, hu, hr⟩ := h 0 e rfl
      simp at hu
      subst hu
      exact hr
    · obtain ⟨u, hu, hr⟩ := h (j + 1) x (by simpa using hj)
      exact ⟨u, by simpa using hu, hr⟩
theorem Zbq {ρ : RM} : ∀ {l l' : List EV} {vs vs' : List Value}, VRs ρ l vs → VRs ρ l' vs' → VRs ρ (l ++ l') (vs ++ vs')
  | [], l', vs, vs', h, h' => by simp only [VRs] at h; subst h; simpa using h'
  | e :: l, l', vs, vs', h, h' => by
    simp only [VRs] at h
    obtain ⟨v, r, rfl, h1, h2⟩ := h
    simp only [List.cons_append, VRs]
    exact ⟨v, r ++ vs', rfl, h1, Zbq h2 h'⟩
theorem ZdB {k : IntKind} : ∀ {l : List EV} {x : List Int}, Z7 k l = some x → l = x.map (EV.int k)
  | [], x, h => by simp [Z7] at h; subst h; rfl
  | .int k' n :: r, x, h => by
    simp only [Z7] at h
    split at h
    · rename_i hk
      subst hk
      simp only [Option.map_eq_some_iff] at h
      obtain ⟨y, hy, rfl⟩ := h
      simp [ZdB hy]
    · simp at h
  | .unk :: r, x, h => by simp [Z7] at h
  | .bool _ :: r, x, h => by simp [Z7] at h
  | .str _ :: r, x, h => by simp [Z7] at h
  | .nilp :: r, x, h => by simp [Z7] at h
  | .ptr _ _ :: r, x, h => by simp [Z7] at h
  | .nils :: r, x, h => by simp [Z7] at h
  | .slice _ _ _ _ :: r, x, h => by simp [Z7] at h
  | .ints _ _ :: r, x, h => by simp [Z7] at h
  | .mix _ _ :: r, x, h => by simp [Z7] at h
  | .nest _ _ :: r, x, h => by simp [Z7] at h
  | .ro _ _ _ :: r, x, h => by simp [Z7] at h
  | .rp _ _ :: r, x, h => by simp [Z7] at h
  | .agg _ :: r, x, h => by simp [Z7] at h
  | .tup _ :: r, x, h => by simp [Z7] at h
  | .fn _ _ _ :: r, x, h => by simp [Z7] at h
  | .nilf :: r, x, h => by simp [Z7] at h
  | .tree _ _ :: r, x, h => by simp [Z7] at h
  | .tp _ _ :: r, x, h => by simp [Z7] at h
theorem ZcI (l : List EV) : (∃ k x, ZcP l = .ints k x ∧ l = x.map (EV.int k)) ∨ ZcP l = .agg l := by
  unfold ZcP
  split
  · rename_i k n r
    split
    · rename_i x hx
      exact .inl ⟨k, n :: x, rfl, by simp [ZdB hx]⟩
    · exact .inr rfl
  · exact .inr rfl
theorem Zch (l : List EV) (j : Nat) : cget (ZcP l) j = l[j]? := by
  rcases ZcI l with ⟨k, x, h, rfl⟩ | h <;> rw [h] <;> simp [cget]
theorem Zfb (l : List EV) : clen (ZcP l) = l.length := by
  rcases ZcI l with ⟨k, x, h, rfl⟩ | h <;> rw [h] <;> simp [clen]
theorem ZbB (l : List EV) : isAgg (ZcP l) = true := by
  rcases ZcI l with ⟨k, x, h, rfl⟩ | h <;> rw [h] <;> rfl
theorem ZfJ {c : EV} {i : Nat} {e : EV} (h : cget c i = some e) : i < clen c := by
  cases c <;> simp [cget, clen] at h ⊢
  · obtain ⟨a, h, _⟩ := h
    exact (List.getElem?_eq_some_iff.1 h).1
  · obtain ⟨a, h, _⟩ := h
    exact (List.getElem?_eq_some_iff.1 h).1
  · obtain ⟨a, h, _⟩ := h
    exact (List.getElem?_eq_some_iff.1 h).1
  · exact (List.getElem?_eq_some_iff.1 h).1
theorem ZjS {c : EV} {i : Nat} (ha : isAgg c = true) (h : i < clen c) : ∃ e, cget c i = some e := by
  cases c <;> simp [isAgg] at ha <;> simp only [cget, clen] at h ⊢
  · exact ⟨_, by rw [List.getElem?_eq_getElem h]; rfl⟩
  · exact ⟨_, by rw [List.getElem?_eq_getElem h]; rfl⟩
  · exact ⟨_, by rw [List.getElem?_eq_getElem h]; rfl⟩
  · exact ⟨_, List.getElem?_eq_getElem h⟩
theorem ZcZ {c : EV} {i : Nat} (h : clen c ≤ i) : cget c i = none := by
  cases c <;> simp [cget, clen] at h ⊢ <;> omega
theorem Za5 {v : EV} (ha : isAgg v = true) (j : Nat) : (cells v)[j]? = cget v j := by
  cases v <;> simp [isAgg] at ha <;> simp [cells, cget, Zh9, Zgt]
theorem Zb0 (v : EV) : (cells v).length = clen v := by
  cases v <;> simp [cells, clen, ZdY, ZcX]
theorem Zia : ∀ (ks : List CK) (l : List Int) (i j : Nat), (recC ks l i)[j]? = (ks[j]?).map fun k => k.dec (l.getD (i + j) 0)
  | [], l, i, j => by simp [recC]
  | k :: r, l, i, 0 => by simp [recC]
  | k :: r, l, i, j + 1 => by
    simp only [recC, List.getElem?_cons_succ, Zia r l (i + 1) j]
    rw [show i + 1 + j = i + (j + 1) by omega]
theorem Zib : ∀ (ks : List CK) (l : List Int) (i : Nat), (recC ks l i).length = ks.length
  | [], l, i => rfl
  | k :: r, l, i => by simp [recC, Zib r l (i + 1)]
theorem Zdp {ks : List CK} {i j : Nat} (hi : i % ks.length = 0) : Zad ks (i + j) = Zad ks j := by
  unfold Zad; rw [Nat.add_mod, hi, Nat.zero_add, Nat.mod_mod]
theorem Zfc (k : CK) (i : Nat) : Zad [k] i = k := by
  unfold Zad; simp [Nat.mod_one]
theorem Zel {ks : List CK} {j : Nat} (h : j < ks.length) : ks[j]? = some (Zad ks j) := by
  unfold Zad; rw [Nat.mod_eq_of_lt h, List.getD_eq_getElem?_getD, List.getElem?_eq_getElem h]; rfl
theorem ZdZ : ∀ {ks : List CK} {x : List EV} {l : List Int}, encC ks x = some l → x.length = ks.length ∧ l.length = ks.length ∧ ∀ (j : Nat), x[j]? = (ks[j]?).bind fun (k : CK) => (l[j]?).map k.dec
  | [], [], l, h => by cases h; exact ⟨rfl, rfl, fun j => by simp⟩
  | [], _ :: _, l, h => by cases h
  | .int k :: r, .int k' n :: x, l, h => by
    simp only [encC] at h
    split at h
    · rename_i e
      subst e
      simp only [Option.map_eq_some_iff] at h
      obtain ⟨y, hy, rfl⟩ := h
      obtain ⟨h1, h2, h3⟩ := ZdZ hy
      refine ⟨by simp [h1], by simp [h2], fun j => ?_⟩
      cases j with
      | zero => simp [CK.dec]
      | succ j => simpa using h3 j
    · cases h
  | .bool :: r, .bool b :: x, l, h => by
    simp only [encC, Option.map_eq_some_iff] at h
    obtain ⟨y, hy, rfl⟩ := h
    obtain ⟨h1, h2, h3⟩ := ZdZ hy
    refine ⟨by simp [h1], by simp [h2], fun j => ?_⟩
    cases j with
    | zero => cases b <;> simp [CK.dec]
    | succ j => simpa using h3 j
  | .int k :: r, [], l, h => by simp [encC] at h
  | .bool :: r, [], l, h => by simp [encC] at h
  | .int k :: r, .bool _ :: x, l, h => by simp [encC] at h
  | .bool :: r, .int _ _ :: x, l, h => by simp [encC] at h
  | .int k :: r, .unk :: x, l, h => by simp [encC] at h
  | .int k :: r, .str _ :: x, l, h => by simp [encC] at h
  | .int k :: r, .nilp :: x, l, h => by simp [encC] at h
  | .int k :: r, .ptr _ _ :: x, l, h => by simp [encC] at h
  | .int k :: r, .nils :: x, l, h => by simp [encC] at h
  | .int k :: r, .slice _ _ _ _ :: x, l, h => by simp [encC] at h
  | .int k :: r, .ints _ _ :: x, l, h => by simp [encC] at h
  | .int k :: r, .mix _ _ :: x, l, h => by simp [encC] at h
  | .int k :: r, .nest _ _ :: x, l, h => by simp [encC] at h
  | .int k :: r, .ro _ _ _ :: x, l, h => by simp [encC] at h
  | .int k :: r, .rp _ _ :: x, l, h => by simp [encC] at h
  | .int k :: r, .agg _ :: x, l, h => by simp [encC] at h
  | .int k :: r, .tup _ :: x, l, h => by simp [encC] at h
  | .int k :: r, .fn _ _ _ :: x, l, h => by simp [encC] at h
  | .int k :: r, .nilf :: x, l, h => by simp [encC] at h
  | .int k :: r, .tree _ _ :: x, l, h => by simp [encC] at h
  | .int k :: r, .tp _ _ :: x, l, h => by simp [encC] at h
  | .bool :: r, .unk :: x, l, h => by simp [encC] at h
  | .bool :: r, .str _ :: x, l, h => by simp [encC] at h
  | .bool :: r, .nilp :: x, l, h => by simp [encC] at h
  | .bool :: r, .ptr _ _ :: x, l, h => by simp [encC] at h
  | .bool :: r, .nils :: x, l, h => by simp [encC] at h
  | .bool :: r, .slice _ _ _ _ :: x, l, h => by simp [encC] at h
  | .bool :: r, .ints _ _ :: x, l, h => by simp [encC] at h
  | .bool :: r, .mix _ _ :: x, l, h => by simp [encC] at h
  | .bool :: r, .nest _ _ :: x, l, h => by simp [encC] at h
  | .bool :: r, .ro _ _ _ :: x, l, h => by simp [encC] at h
  | .bool :: r, .rp _ _ :: x, l, h => by simp [encC] at h
  | .bool :: r, .agg _ :: x, l, h => by simp [encC] at h
  | .bool :: r, .tup _ :: x, l, h => by simp [encC] at h
  | .bool :: r, .fn _ _ _ :: x, l, h => by simp [encC] at h
  | .bool :: r, .nilf :: x, l, h => by simp [encC] at h
  | .bool :: r, .tree _ _ :: x, l, h => by simp [encC] at h
  | .bool :: r, .tp _ _ :: x, l, h => by simp [encC] at h
theorem ZiZ (sz : Nat) (v : EV) : isAgg (ZfD sz v) = isAgg v ∧ clen (ZfD sz v) = clen v ∧ ∀ j, cget (ZfD sz v) j = cget v j := by
  unfold ZfD
  repeat' split
  all_goals first
    | exact ⟨rfl, rfl, fun _ => rfl⟩
    | skip
  rename_i x hx
  obtain ⟨h1, h2, h3⟩ := ZdZ hx
  refine ⟨rfl, by simp only [clen, h2, h1], fun j => ?_⟩
  rename_i ks _ _
  show Option.map (Zad ks j).dec x[j]? = (_ :: _)[j]?
  rw [h3 j]
  by_cases hj : j < ks.length
  · rw [Zel hj]; rfl
  · rw [List.getElem?_eq_none (l := ks) (by omega), List.getElem?_eq_none (l := x) (by omega)]; rfl
theorem ZfK {ks : List NK} {j : Nat} (h : j < ks.length) : ks[j]? = some (Z8 ks j) := by
  unfold Z8; rw [Nat.mod_eq_of_lt h, List.getD_eq_getElem?_getD, List.getElem?_eq_getElem h]; rfl
theorem Zgo (k : NK) (i : Nat) : Z8 [k] i = k := by
  unfold Z8; simp [Nat.mod_one]
theorem Zic {ks : List NK} {i j f : Nat} (hi : i % ks.length = f) (hf : f + j < ks.length) : Z8 ks (i + j) = Z8 ks (f + j) := by
  unfold Z8
  rw [Nat.add_mod, hi, Nat.mod_eq_of_lt (show j < ks.length by omega)]
theorem Zid : ∀ (ks : List NK) (l : List NC) (i j : Nat), (recN ks l i)[j]? = (ks[j]?).map fun k => k.dec (l.getD (i + j) ⟨0, []⟩)
  | [], l, i, j => by simp [recN]
  | k :: r, l, i, 0 => by simp [recN]
  | k :: r, l, i, j + 1 => by
    simp only [recN, List.getElem?_cons_succ, Zid r l (i + 1) j]
    rw [show i + 1 + j = i + (j + 1) by omega]
theorem Zie : ∀ (ks : List NK) (l : List NC) (i : Nat), (recN ks l i).length = ks.length
  | [], l, i => rfl
  | k :: r, l, i => by simp [recN, Zie r l (i + 1)]
theorem Zbr {l : List NC} {i : Nat} (h : i < l.length) : l[i]? = some (l.getD i ⟨0, []⟩) := by
  rw [List.getD_eq_getElem?_getD, List.getElem?_eq_getElem h]; rfl
theorem ZjT : ∀ {ks : List NK} {k : IntKind}, intN ks = some k → ∀ j, j < ks.length → ks.getD j (.c .any) = .c (.int k)
  | [], _, h, j, hj => by cases h
  | .c (.int k') :: r, k, h, j, hj => by
    match r, h with
    | [], h =>
      simp only [intN, Option.some.injEq] at h
      subst h
      have : j = 0 := by simpa using hj
      subst this; rfl
    | q :: r, h =>
      simp only [intN] at h
      split at h
      · rename_i k2 h2
        split at h
        · rename_i e
          subst e
          simp only [Option.some.injEq] at h
          subst h
          cases j with
          | zero => rfl
          | succ j => exact ZjT (ks := q :: r) h2 j (by simpa using hj)
        · cases h
      · cases h
  | .c .bool :: r, k, h, j, hj => by simp [intN] at h
  | .c .any :: r, k, h, j, hj => by simp [intN] at h
  | .si _ _ :: r, k, h, j, hj => by simp [intN] at h
  | .sm _ :: r, k, h, j, hj => by simp [intN] at h
  | .pt _ _ _ :: r, k, h, j, hj => by simp [intN] at h
theorem Zci {ks : List NK} {j : Nat} (h : j < ks.length) : Z8 ks j = ks.getD j (.c .any) := by
  unfold Z8; rw [Nat.mod_eq_of_lt h]
theorem ZjU {ks : List NK} {l : List NC} {i : Nat} (hle : i + ks.length ≤ l.length) : isAgg (recV ks l i) = true ∧ clen (recV ks l i) = ks.length ∧ ∀ j, j < ks.length → cget (recV ks l i) j = some ((ks.getD j (.c .any)).dec (l.getD (i + j) ⟨0, []⟩)) := by
  unfold recV
  split
  · rename_i k hk
    refine ⟨rfl, by simp only [clen, List.length_map, List.length_take, List.length_drop]; omega, fun j hj => ?_⟩
    simp only [cget, List.getElem?_map, List.getElem?_take_of_lt hj, List.getElem?_drop, ZjT hk j hj, Zbr (l := l) (i := i + j) (by omega)]
    rfl
  · split
    · refine ⟨rfl, by simp only [clen, Zie], fun j hj => ?_⟩
      simp only [cget, Zid]
      rw [List.getElem?_eq_getElem hj]
      simp only [Option.map_some, List.getD_eq_getElem?_getD, List.getElem?_eq_getElem hj, Option.getD_some]
    · refine ⟨rfl, by simp only [clen, List.length_take, List.length_drop]; omega, fun j hj => ?_⟩
      simp only [cget, List.getElem?_take_of_lt hj, List.getElem?_drop, Zbr (l := l) (i := i + j) (by omega), Option.map_some, Zci hj]
theorem Zgw {ks : List NK} {l : List NC} {i n : Nat} {x : EV} (hle : i + n ≤ l.length) : ∀ (q f : Nat), q + f + n ≤ ks.length + 1 → subN ks l i n q f = some x → isAgg x = true ∧ clen x = n ∧ ∀ j, j < n → cget x j = cget (.nest ks l) (i + j)
  | 0, f, _, h => by cases h
  | q + 1, f, hq, h => by
    unfold subN at h
    split at h
    · rename_i hm
      cases h
      have hlen : ((ks.drop f).take n).length = n := by rw [List.length_take, List.length_drop]; omega
      obtain ⟨h1, h2, h3⟩ := ZjU (ks := (ks.drop f).take n) (l := l) (i := i) (by rw [hlen]; exact hle)
      refine ⟨h1, h2.trans hlen, fun j hj => ?_⟩
      rw [h3 j (by rw [hlen]; exact hj)]
      simp only [cget]
      rw [Zbr (l := l) (i := i + j) (by omega), Zic hm (by omega), Option.map_some, Zci (by omega), List.getD_eq_getElem?_getD, List.getElem?_take_of_lt hj, List.getElem?_drop, ← List.getD_eq_getElem?_getD]
    · exact Zgw hle q (f + 1) (by omega) h
theorem ZjV {l : List Int} {i : Nat} (h : i < l.length) : l[i]? = some (l.getD i 0) := by
  rw [List.getD_eq_getElem?_getD, List.getElem?_eq_getElem h]; rfl
theorem Zan {c x : EV} {i n : Nat} (h : csub c i n = some x) : isAgg c = true ∧ isAgg x = true ∧ clen x = n ∧ i + n ≤ clen c ∧ ∀ j, j < n → cget x j = cget c (i + j) := by
  cases c <;> simp [csub] at h
  · obtain ⟨hle, rfl⟩ := h
    refine ⟨rfl, rfl, by simp [clen]; omega, by simpa [clen] using hle, fun j hj => ?_⟩
    simp [cget, hj]
  · obtain ⟨hle, h⟩ := h
    rename_i ks l
    split at h
    · cases h
      refine ⟨rfl, rfl, by simp [clen]; omega, by simpa [clen] using hle, fun j hj => ?_⟩
      simp only [cget, Zfc]
      rw [List.getElem?_take_of_lt hj, List.getElem?_drop]
    · split at h
      · rename_i hn
        split at h
        · rename_i hm
          cases h
          refine ⟨rfl, rfl, by simp [clen, Zib]; omega, by simpa [clen] using hle, fun j hj => ?_⟩
          simp only [cget, Zia, Zdp hm]
          rw [Zel (by omega), ZjV (l := l) (i := i + j) (by omega)]
          rfl
        · cases h
      · cases h
  · obtain ⟨hle, h⟩ := h
    rename_i ks l
    by_cases hn : n ≤ ks.length + 1
    · obtain ⟨h1, h2, h3⟩ := Zgw hle _ _ (by omega) h
      exact ⟨rfl, h1, h2, by simpa [clen] using hle, h3⟩
    · rw [show ks.length + 1 - n = 0 by omega] at h
      cases h
  · obtain ⟨hle, rfl⟩ := h
    refine ⟨rfl, ZbB _, by simp [Zfb]; omega, by simpa [clen] using hle, fun j hj => ?_⟩
    rw [Zch]
    simp [cget, hj]
theorem Zdq {α : Type} (l x : List α) (i j : Nat) (h : i + x.length ≤ l.length) :
    (l.take i ++ (x ++ l.drop (i + x.length)))[j]? = if i ≤ j ∧ j < i + x.length then x[j - i]? else l[j]? := by
  by_cases h1 : j < i
  · rw [if_neg (by omega), List.getElem?_append_left (by simp; omega), List.getElem?_take_of_lt h1]
  · rw [List.getElem?_append_right (by simp; omega)]
    simp only [List.length_take]
    rw [Nat.min_eq_left (by omega)]
    by_cases h2 : j < i + x.length
    · rw [if_pos ⟨by omega, h2⟩, List.getElem?_append_left (by omega)]
    · rw [if_neg (by omega), List.getElem?_append_right (by omega), List.getElem?_drop]
      congr 1
      omega
theorem Zem {c v : EV} (h : clen v = clen c) (hc : isAgg c = true) (hv : isAgg v = true) (j : Nat) : cget v j = if 0 ≤ j ∧ j < 0 + clen v then (cells v)[j - 0]? else cget c j := by
  have key : ∀ {u : EV}, isAgg u = true → (cells u)[j]? = cget u j := fun {u} hu => by cases u <;> simp [isAgg] at hu <;> simp [cells, cget, Zh9, Zgt]
  have klen : ∀ {u : EV}, isAgg u = true → clen u ≤ j → cget u j = none := fun {u} hu hl => by
    cases u <;> simp [isAgg] at hu <;> simp only [clen] at hl <;> simp [cget, List.getElem?_eq_none hl]
  by_cases hj : j < clen v
  · rw [if_pos ⟨Nat.zero_le _, by omega⟩, Nat.sub_zero, key hv]
  · rw [if_neg (by omega), klen hv (by omega), klen hc (by omega)]
theorem ZaP {c v c' : EV} {i : Nat} (hput0 : cput c i v = some c') :
    isAgg c = true ∧ isAgg c' = true ∧ clen c' = clen c ∧ i + clen v ≤ clen c ∧ (isAgg v = true ∨ ZM v = true) ∧
      ∀ j, cget c' j = if i ≤ j ∧ j < i + clen v then (cells v)[j - i]? else cget c j := by
  have hsc : ∀ (l : List EV) (v : EV), ZM v = true → i < l.length → cput (.agg l) i v = some (.agg (l.set i v)) → ∀ j, (l.set i v)[j]? = if i ≤ j ∧ j < i + clen v then (cells v)[j - i]? else l[j]? := by
    intro l v hv hi _ j
    have hcl : clen v = 1 ∧ cells v = [v] := by cases v <;> simp [ZM] at hv <;> exact ⟨rfl, rfl⟩
    rw [hcl.1, hcl.2, List.getElem?_set]
    by_cases e : i = j
    · subst e; simp [hi]
    · rw [if_neg e, if_neg (by omega)]
  have hfall : ∀ (l : List EV) (v : EV), (if (ZM v && decide (i < l.length)) = true then some (EV.agg (l.set i v)) else none) = some c' → c = .agg l → isAgg c = true ∧ isAgg c' = true ∧ clen c' = clen c ∧ i + clen v ≤ clen c ∧ (isAgg v = true ∨ ZM v = true) ∧
      ∀ j, cget c' j = if i ≤ j ∧ j < i + clen v then (cells v)[j - i]? else cget c j := by
    intro l v hif hc
    subst hc
    split at hif
    · rename_i hh
      simp only [Bool.and_eq_true, decide_eq_true_eq] at hh
      obtain ⟨hv, hi⟩ := hh
      simp only [Option.some.injEq] at hif
      subst hif
      have hcl : clen v = 1 := by cases v <;> simp [ZM] at hv <;> rfl
      have hput : cput (.agg l) i v = some (.agg (l.set i v)) := by
        cases v <;> simp [ZM] at hv <;> simp [cput, ZM, hi]
      refine ⟨rfl, rfl, by simp [clen], by rw [hcl]; exact hi, .inr hv, fun j => ?_⟩
      exact hsc l v hv hi hput j
    · simp at hif
  have h := hput0
  cases c with
  | ints k l =>
    cases v <;> simp only [cput] at h <;> try (simp at h; done)
    · rename_i k' n
      split at h
      · rename_i hk
        subst hk
        split at h
        · rename_i hi
          simp only [Option.some.injEq] at h
          subst h
          refine ⟨rfl, rfl, by simp [clen], by simp only [clen]; omega, .inr rfl, fun j => ?_⟩
          have hc1 : clen (EV.int k n) = 1 := rfl
          by_cases e : i = j
          · subst e
            rw [if_pos ⟨Nat.le_refl _, by omega⟩]
            simp [cget, cells, hi]
          · rw [if_neg (by omega)]
            simp only [cget, List.getElem?_set_ne e]
        · simp at h
      · simp at h
    · rename_i k' x
      split at h
      · rename_i hk
        subst hk
        split at h
        · rename_i hi
          simp only [Option.some.injEq] at h
          subst h
          refine ⟨rfl, rfl, by simp [clen]; omega, by simpa [clen] using hi, .inl rfl, fun j => ?_⟩
          have hcx : clen (EV.ints k x) = x.length := rfl
          have hp := Zdq l x i j hi
          by_cases hc : i ≤ j ∧ j < i + x.length
          · rw [if_pos (by rw [hcx]; exact hc)]
            rw [if_pos hc] at hp
            simp only [cget, cells, hp, List.getElem?_map]
          · rw [if_neg (by rw [hcx]; exact hc)]
            rw [if_neg hc] at hp
            simp only [cget, hp]
        · simp at h
      · simp at h
  | mix ks l =>
    cases v <;> simp only [cput] at h <;> try (simp at h; done)
    · rename_i b
      split at h
      · rename_i hk
        split at h
        · rename_i hi
          simp only [Option.some.injEq] at h
          subst h
          refine ⟨rfl, rfl, by simp [clen], by simp only [clen]; omega, .inr rfl, fun j => ?_⟩
          have hc1 : clen (EV.bool b) = 1 := rfl
          by_cases e : i = j
          · subst e
            rw [if_pos ⟨Nat.le_refl _, by omega⟩]
            simp only [cget, List.getElem?_set_self hi, Option.map_some, hk, Nat.sub_self]
            cases b <;> rfl
          · rw [if_neg (by omega)]
            simp only [cget, List.getElem?_set_ne e]
        · simp at h
      · simp at h
    · rename_i k n
      split at h
      · rename_i hk
        split at h
        · rename_i hi
          simp only [Option.some.injEq] at h
          subst h
          refine ⟨rfl, rfl, by simp [clen], by simp only [clen]; omega, .inr rfl, fun j => ?_⟩
          have hc1 : clen (EV.int k n) = 1 := rfl
          by_cases e : i = j
          · subst e
            rw [if_pos ⟨Nat.le_refl _, by omega⟩]
            simp only [cget, List.getElem?_set_self hi, Option.map_some, hk, Nat.sub_self]
            rfl
          · rw [if_neg (by omega)]
            simp only [cget, List.getElem?_set_ne e]
        · simp at h
      · simp at h
  | nest ks l =>
    cases v <;> simp only [cput] at h <;> try (simp at h; done)
    · rename_i b
      split at h
      · rename_i hk
        split at h
        · rename_i hi
          simp only [Option.some.injEq] at h
          subst h
          refine ⟨rfl, rfl, by simp [clen], by simp only [clen]; omega, .inr rfl, fun j => ?_⟩
          have hc1 : clen (EV.bool b) = 1 := rfl
          by_cases e : i = j
          · subst e
            rw [if_pos ⟨Nat.le_refl _, by omega⟩]
            simp only [cget, List.getElem?_set_self hi, Option.map_some, hk, Nat.sub_self]
            cases b <;> rfl
          · rw [if_neg (by omega)]
            simp only [cget, List.getElem?_set_ne e]
        · simp at h
      · simp at h
    · rename_i k n
      split at h
      · rename_i hk
        split at h
        · rename_i hi
          simp only [Option.some.injEq] at h
          subst h
          refine ⟨rfl, rfl, by simp [clen], by simp only [clen]; omega, .inr rfl, fun j => ?_⟩
          have hc1 : clen (EV.int k n) = 1 := rfl
          by_cases e : i = j
          · subst e
            rw [if_pos ⟨Nat.le_refl _, by omega⟩]
            simp only [cget, List.getElem?_set_self hi, Option.map_some, hk, Nat.sub_self]
            rfl
          · rw [if_neg (by omega)]
            simp only [cget, List.getElem?_set_ne e]
        · simp at h
      · simp at h
    · split at h
      · rename_i hi
        split at h
        · rename_i hx
          simp only [Option.some.injEq] at h
          subst h
          subst hi
          refine ⟨rfl, rfl, by simpa [clen] using hx, by simp only [clen]; omega, .inl rfl, fun j => ?_⟩
          exact Zem (by simp only [clen]; exact hx) rfl rfl j
        · simp at h
      · simp at h
    · rename_i c n z
      cases c <;> simp only at h <;> try (simp at h; done)
      rename_i k x
      split at h
      · rename_i hk
        split at h
        · rename_i hi
          split at h
          · rename_i hz
            simp only [Option.some.injEq] at h
            subst h
            refine ⟨rfl, rfl, by simp [clen], by simp only [clen]; omega, .inr rfl, fun j => ?_⟩
            have hc1 : clen (EV.ro (.ints k x) n z) = 1 := rfl
            have hmany : many z x = n := by
              unfold many
              split
              · omega
              · rw [hz.2]; exact Nat.mul_div_cancel _ hz.1
            by_cases e : i = j
            · subst e
              rw [if_pos ⟨Nat.le_refl _, by omega⟩]
              simp only [cget, List.getElem?_set_self hi, Option.map_some, hk, Nat.sub_self, NK.dec, NK.cont, NK.sz, hmany]
              rfl
            · rw [if_neg (by omega)]
              simp only [cget, List.getElem?_set_ne e]
          · simp at h
        · simp at h
      · simp at h
    · split at h
      · rename_i hi
        split at h
        · rename_i hx
          simp only [Option.some.injEq] at h
          subst h
          subst hi
          refine ⟨rfl, rfl, by simpa [clen] using hx, by simp only [clen]; omega, .inl rfl, fun j => ?_⟩
          exact Zem (by simp only [clen]; exact hx) rfl rfl j
        · simp at h
      · simp at h
  | agg l =>
    cases v <;> simp only [cput] at h
    case ints k x =>
      split at h
      · rename_i hi
        simp only [Option.some.injEq] at h
        subst h
        have hi' : i + (x.map (EV.int k)).length ≤ l.length := by simpa using hi
        refine ⟨rfl, rfl, by simp [clen]; omega, by simpa [clen] using hi, .inl rfl, fun j => ?_⟩
        have hp := Zdq l (x.map (EV.int k)) i j hi'
        have hcx : clen (EV.ints k x) = x.length := rfl
        simp only [List.length_map] at hp
        by_cases hc : i ≤ j ∧ j < i + x.length
        · rw [if_pos (by rw [hcx]; exact hc)]
          rw [if_pos hc] at hp
          simp only [cget, cells, hp]
        · rw [if_neg (by rw [hcx]; exact hc)]
          rw [if_neg hc] at hp
          simp only [cget, hp]
      · simp at h
    case agg x =>
      split at h
      · rename_i hi
        simp only [Option.some.injEq] at h
        subst h
        refine ⟨rfl, rfl, by simp [clen]; omega, by simpa [clen] using hi, .inl rfl, fun j => ?_⟩
        exact Zdq l x i j hi
      · simp at h
    case nest ks x =>
      split at h
      · rename_i hi
        split at h
        · rename_i hx
          simp only [Option.some.injEq] at h
          subst h
          subst hi
          refine ⟨rfl, rfl, by simpa [clen] using hx, by simp only [clen]; omega, .inl rfl, fun j => ?_⟩
          exact Zem (by simp only [clen]; exact hx) rfl rfl j
        · simp at h
      · simp at h
    all_goals exact hfall l _ h rfl
  | _ => cases v <;> simp [cput] at h
theorem ZjW {a b c : EV} (h : ccat a b = some c) : isAgg a = true ∧ isAgg b = true ∧ isAgg c = true ∧ clen c = clen a + clen b ∧ ∀ j, cget c j = if j < clen a then cget a j else cget b (j - clen a) := by
  have key : ∀ {α : Type} (l x : List α) (j : Nat), (l ++ x)[j]? = if j < l.length then l[j]? else x[j - l.length]? := by
    intro α l x j
    split
    · rw [List.getElem?_append_left (by assumption)]
    · rw [List.getElem?_append_right (by omega)]
  cases a <;> cases b <;> simp only [ccat] at h <;> try (simp at h; done)
  · split at h
    · rename_i k l k' x hk
      subst hk
      simp only [Option.some.injEq] at h
      subst h
      refine ⟨rfl, rfl, rfl, by simp [clen], fun j => ?_⟩
      have hcx : clen (EV.ints k l) = l.length := rfl
      by_cases hj : j < l.length
      · rw [if_pos (by rw [hcx]; exact hj)]
        simp only [cget, key, if_pos hj]
      · rw [if_neg (by rw [hcx]; exact hj)]
        simp only [cget, key, if_neg hj, clen]
    · simp at h
  · rename_i k l x
    cases x with
    | nil =>
      simp only [Option.some.injEq] at h
      subst h
      refine ⟨rfl, rfl, rfl, by simp [clen], fun j => ?_⟩
      have hcx : clen (EV.ints k l) = l.length := rfl
      by_cases hj : j < l.length
      · rw [if_pos (by rw [hcx]; exact hj)]
      · rw [if_neg (by rw [hcx]; exact hj), ZcZ (by rw [hcx]; omega)]
        simp [cget]
    | cons _ _ => simp at h
  · rename_i ks l ks' x
    split at h
    · rename_i hk
      subst hk
      split at h
      · rename_i hm
        simp only [Option.some.injEq] at h
        subst h
        refine ⟨rfl, rfl, rfl, by simp [clen], fun j => ?_⟩
        have hcx : clen (EV.mix ks l) = l.length := rfl
        by_cases hj : j < l.length
        · rw [if_pos (by rw [hcx]; exact hj)]
          simp only [cget, key, if_pos hj]
        · rw [if_neg (by rw [hcx]; exact hj)]
          have e : Zad ks j = Zad ks (j - l.length) := by
            have := Zdp (j := j - l.length) hm
            rwa [show l.length + (j - l.length) = j by omega] at this
          simp only [cget, key, if_neg hj, clen, e]
      · simp at h
    · simp at h
  · rename_i ks l x
    split at h
    · simp only [Option.some.injEq] at h
      subst h
      refine ⟨rfl, rfl, rfl, by simp [clen], fun j => ?_⟩
      have hcx : clen (EV.mix ks l) = l.length := rfl
      by_cases hj : j < l.length
      · rw [if_pos (by rw [hcx]; exact hj)]
      · rw [if_neg (by rw [hcx]; exact hj), ZcZ (by rw [hcx]; omega)]
        simp [cget]
    · split at h
      · rename_i y hy
        obtain ⟨h1, h2, h3⟩ := ZdZ hy
        split at h
        · rename_i hm
          simp only [Option.some.injEq] at h
          subst h
          refine ⟨rfl, rfl, rfl, by simp [clen]; omega, fun j => ?_⟩
          have hcx : clen (EV.mix ks l) = l.length := rfl
          by_cases hj : j < l.length
          · rw [if_pos (by rw [hcx]; exact hj)]
            simp only [cget, key, if_pos hj]
          · rw [if_neg (by rw [hcx]; exact hj)]
            have e : Zad ks j = Zad ks (j - l.length) := by
              have := Zdp (j := j - l.length) hm
              rwa [show l.length + (j - l.length) = j by omega] at this
            simp only [cget, key, if_neg hj, clen, e, h3]
            by_cases hq : j - l.length < ks.length
            · rw [Zel hq]; rfl
            · rw [List.getElem?_eq_none (l := y) (by omega), List.getElem?_eq_none (l := ks) (by omega)]; rfl
        · simp at h
      · simp at h
  · rename_i ks l ks' x
    split at h
    · rename_i hk
      subst hk
      split at h
      · rename_i hm
        simp only [Option.some.injEq] at h
        subst h
        refine ⟨rfl, rfl, rfl, by simp [clen], fun j => ?_⟩
        have hcx : clen (EV.nest ks l) = l.length := rfl
        by_cases hj : j < l.length
        · rw [if_pos (by rw [hcx]; exact hj)]
          simp only [cget, key, if_pos hj]
        · rw [if_neg (by rw [hcx]; exact hj)]
          have e : Z8 ks j = Z8 ks (j - l.length) := by
            have h0 : l.length + (j - l.length) = j := by omega
            unfold Z8
            rw [← h0, Nat.add_mod, hm, Nat.zero_add, Nat.mod_mod, Nat.add_sub_cancel_left]
          simp only [cget, key, if_neg hj, clen, e]
      · simp at h
    · simp at h
  · rename_i ks l x
    split at h
    · simp only [Option.some.injEq] at h
      subst h
      refine ⟨rfl, rfl, rfl, by simp [clen], fun j => ?_⟩
      have hcx : clen (EV.nest ks l) = l.length := rfl
      by_cases hj : j < l.length
      · rw [if_pos (by rw [hcx]; exact hj)]
      · rw [if_neg (by rw [hcx]; exact hj), ZcZ (by rw [hcx]; omega)]
        simp [cget]
    · simp at h
  · rename_i l k x
    cases l with
    | nil =>
      simp only [Option.some.injEq] at h
      subst h
      refine ⟨rfl, rfl, rfl, by simp [clen], fun j => by simp [cget, clen]⟩
    | cons _ _ => simp at h
  · rename_i l ks x
    cases l with
    | nil =>
      simp only [Option.some.injEq] at h
      subst h
      refine ⟨rfl, rfl, rfl, by simp [clen], fun j => by simp [cget, clen]⟩
    | cons _ _ => simp at h
  · rename_i l x
    cases l with
    | nil =>
      simp only [Option.some.injEq] at h
      subst h
      refine ⟨rfl, rfl, rfl, by simp [clen], fun j => by simp [cget, clen]⟩
    | cons e l =>
      simp only [Option.some.injEq] at h
      subst h
      refine ⟨rfl, rfl, rfl, by simp [clen]; omega, fun j => ?_⟩
      exact key (e :: l) x j
theorem Znr {ρ : RM} {k : CK} {n : Int} {v : Value} (h : k.is n v) : VR ρ (k.dec n) v := by
  rcases h with h | h
  · rw [h]; simp [CK.dec, VR]
  · rw [h]
    cases k <;> simp [VR, CK.dec, CK.val]
theorem ZmJ {ρ : RM} {k : NK} {n : NC} {v : Value} (h : k.is ρ.F n v) : VR ρ (k.dec n) v := by
  cases k <;> simp only [NK.is, NK.dec] at h ⊢
  · exact Znr h
  case pt a z b =>
    rcases h with ⟨h1, h2⟩ | ⟨h1, bl, base, h2, h3⟩
    · rw [if_pos h1]
      simpa only [VR] using h2
    · rw [if_neg h1]
      simp only [VR]
      exact ⟨bl, base, h2, Zh8.1 h3⟩
  all_goals
    simp only [VR]
    exact h.imp id fun ⟨b, base, cap, h1, h2, h3, h4⟩ => ⟨b, base, cap, h1, h2, h3, Zgs h4⟩
theorem Zns {ρ : RM} {k : CK} {n : Int} {v : Value} (h : VR ρ (k.dec n) v) : k.is n v := by
  cases k with
  | any => exact .inl rfl
  | int k => simp only [CK.dec, VR] at h; exact .inr h
  | bool => simp only [CK.dec, VR] at h; exact .inr h
theorem ZjX {F : Nat → Option Obj} {k : NK} {x : List Int} {b base : Nat} (h : Zcv F (k.cont x) b base) : ZdW F (k.cont x) b base := by
  cases k <;> first | exact h | exact h.elim
theorem Znt {ρ : RM} {k : NK} {n : NC} {v : Value} (h : VR ρ (k.dec n) v) : k.is ρ.F n v := by
  cases k <;> simp only [NK.is, NK.dec] at h ⊢
  · exact Zns h
  case pt a z b =>
    by_cases h1 : n.i = 0
    · rw [if_pos h1] at h
      simp only [VR] at h
      exact .inl ⟨h1, h⟩
    · rw [if_neg h1] at h
      simp only [VR] at h
      obtain ⟨bl, base, h2, h3⟩ := h
      exact .inr ⟨h1, bl, base, h2, Zh8.2 h3⟩
  all_goals
    simp only [VR] at h
    exact h.imp id fun ⟨b, base, cap, h1, h2, h3, h4⟩ => ⟨b, base, cap, h1, h2, h3, ZjX h4⟩
theorem ZlD {ρ : RM} {c : EV} {b base : Nat} (h : Zcv ρ.F c b base) : isAgg c = true ∧ ∀ (j : Nat) (e : EV), cget c j = some e → ∃ v, fcell ρ.F b (base + j) = some v ∧ v.oneCell' = true ∧ VR ρ e v := by
  cases c <;> simp only [Zcv, ZdW] at h
  case ints k l =>
    refine ⟨rfl, fun j e hj => ?_⟩
    simp only [cget, Option.map_eq_some_iff] at hj
    obtain ⟨n, hn, rfl⟩ := hj
    exact ⟨_, h j n hn, rfl, by simp [VR]⟩
  case mix ks l =>
    refine ⟨rfl, fun j e hj => ?_⟩
    simp only [cget, Option.map_eq_some_iff] at hj
    obtain ⟨n, hn, rfl⟩ := hj
    obtain ⟨u, h1, h2, h3⟩ := h j n hn
    exact ⟨u, h1, h2, Znr h3⟩
  case nest ks l =>
    refine ⟨rfl, fun j e hj => ?_⟩
    simp only [cget, Option.map_eq_some_iff] at hj
    obtain ⟨n, hn, rfl⟩ := hj
    obtain ⟨u, h1, h2, h3⟩ := h j n hn
    exact ⟨u, h1, h2, ZmJ h3⟩
theorem Zen {ρ : RM} {x : EV} {v : Value} (h : VR ρ x v) (ha : isAgg x = true) :
    ∃ cs : List Value, v = .agg cs.toArray ∧ cs.length = clen x ∧ (∀ c ∈ cs, c.oneCell' = true) ∧ ∀ (j : Nat) (e : EV), cget x j = some e → ∃ u, cs[j]? = some u ∧ VR ρ e u := by
  cases x <;> simp [isAgg] at ha
  · rename_i k l
    simp only [VR] at h
    refine ⟨_, h, by simp [clen], fun c hc => ?_, fun j e hj => ?_⟩
    · obtain ⟨n, _, rfl⟩ := List.mem_map.1 hc
      rfl
    · simp only [cget, Option.map_eq_some_iff] at hj
      obtain ⟨n, hn, rfl⟩ := hj
      exact ⟨.int k n, by simp [hn], by simp [VR]⟩
  · rename_i ks l
    simp only [VR] at h
    obtain ⟨cs, rfl, hl, ho, hi⟩ := h
    refine ⟨cs, rfl, by simpa [clen] using hl, ho, fun j e hj => ?_⟩
    simp only [cget, Option.map_eq_some_iff] at hj
    obtain ⟨n, hn, rfl⟩ := hj
    have hlt : j < cs.length := by rw [hl]; exact (List.getElem?_eq_some_iff.1 hn).1
    refine ⟨cs[j], List.getElem?_eq_getElem hlt, ?_⟩
    rcases hi j n cs[j] hn (List.getElem?_eq_getElem hlt) with h | h
    · rw [h]; simp [CK.dec, VR]
    · rw [h]
      cases Zad ks j <;> simp [VR, CK.dec, CK.val]
  · rename_i ks l
    simp only [VR] at h
    obtain ⟨cs, rfl, hl, ho, hi⟩ := h
    refine ⟨cs, rfl, by simpa [clen] using hl, ho, fun j e hj => ?_⟩
    simp only [cget, Option.map_eq_some_iff] at hj
    obtain ⟨n, hn, rfl⟩ := hj
    have hlt : j < cs.length := by rw [hl]; exact (List.getElem?_eq_some_iff.1 hn).1
    exact ⟨cs[j], List.getElem?_eq_getElem hlt, ZmJ (hi j n cs[j] hn (List.getElem?_eq_getElem hlt))⟩
  · rename_i l
    simp only [VR] at h
    obtain ⟨cs, rfl, hl, hc⟩ := h
    refine ⟨cs, rfl, by simpa [clen] using Zbp hl, hc, fun j e hj => ?_⟩
    simp only [cget] at hj
    exact Zek hl j e hj
theorem Zbs {ρ : RM} {x : EV} (ha : isAgg x = true) {cs : List Value} (hl : cs.length = clen x) (hc : ∀ c ∈ cs, c.oneCell' = true)
    (h : ∀ (j : Nat) (e : EV), cget x j = some e → ∃ u, cs[j]? = some u ∧ VR ρ e u) : VR ρ x (.agg cs.toArray) := by
  cases x <;> simp [isAgg] at ha
  · rename_i k l
    simp only [VR]
    congr 2
    refine List.ext_getElem? fun j => ?_
    by_cases hj : j < l.length
    · obtain ⟨u, hu, hr⟩ := h j (.int k l[j]) (by simp [cget, hj])
      simp only [VR] at hr
      rw [hu, hr]
      simp [hj]
    · rw [List.getElem?_eq_none (by simp [clen] at hl; omega), List.getElem?_eq_none (by simp; omega)]
  · rename_i ks l
    simp only [VR]
    refine ⟨cs, rfl, by simpa [clen] using hl, hc, fun j n c hn hcj => ?_⟩
    obtain ⟨u, hu, hr⟩ := h j ((Zad ks j).dec n) (by simp [cget, hn])
    rw [hcj] at hu
    cases hu
    cases hk : Zad ks j with
    | any => exact .inl rfl
    | int k => rw [hk] at hr; simp only [CK.dec, VR] at hr; exact .inr hr
    | bool => rw [hk] at hr; simp only [CK.dec, VR] at hr; exact .inr hr
  · rename_i ks l
    simp only [VR]
    refine ⟨cs, rfl, by simpa [clen] using hl, hc, fun j n c hn hcj => ?_⟩
    obtain ⟨u, hu, hr⟩ := h j ((Z8 ks j).dec n) (by simp [cget, hn])
    rw [hcj] at hu
    cases hu
    exact Znt hr
  · rename_i l
    simp only [VR]
    exact ⟨cs, rfl, Zgv (by simpa [clen] using hl) (fun (j : Nat) (e : EV) hj => h j e (by simpa [cget] using hj)), hc⟩
theorem ZjY {ρ : RM} {x : EV} {v : Value} (h : VR ρ x v) (hs : ZM x = true) : v.oneCell' = true := by
  cases x <;> simp [ZM] at hs <;> simp only [VR] at h
  case bool => subst h; rfl
  case int => subst h; rfl
  case str => subst h; rfl
  case nilp => subst h; rfl
  case ptr => obtain ⟨a, rfl, _⟩ := h; rfl
  case nils => subst h; rfl
  case slice => obtain ⟨a, c, rfl, _⟩ := h; rfl
  case ro => rcases h with ⟨⟨q, rfl⟩, _⟩ | ⟨b, base, cap, rfl, _⟩ <;> rfl
  case rp => obtain ⟨b, base, rfl, _⟩ := h; rfl
  case fn => obtain ⟨a, c, rfl, _⟩ := h; rfl
  case nilf => subst h; rfl
  case tp => obtain ⟨a, rfl, _⟩ := h; rfl
theorem ZbC {ρ : RM} {x : EV} {v : Value} (h : VR ρ x v) (hs : isAgg x = true ∨ ZM x = true) :
    v.cells.toList.length = clen x ∧ (∀ c ∈ v.cells.toList, c.oneCell' = true) ∧ ∀ (j : Nat) (e : EV), (cells x)[j]? = some e → ∃ u, v.cells.toList[j]? = some u ∧ VR ρ e u := by
  rcases hs with hs | hs
  · obtain ⟨cs, rfl, hl, hc, hg⟩ := Zen h hs
    refine ⟨by simpa [Value.cells] using hl, by simpa [Value.cells] using hc, fun j e hj => ?_⟩
    rw [Za5 hs] at hj
    obtain ⟨u, hu, hr⟩ := hg j e hj
    exact ⟨u, by simpa [Value.cells] using hu, hr⟩
  · have h1 := ZjY h hs
    have hcl : clen x = 1 ∧ cells x = [x] := by cases x <;> simp [ZM] at hs <;> exact ⟨rfl, rfl⟩
    have hv : v.cells = #[v] := by cases v <;> simp [Value.oneCell'] at h1 <;> rfl
    rw [hv, hcl.1, hcl.2]
    refine ⟨rfl, by simpa using h1, fun j e hj => ?_⟩
    cases j with
    | zero => simp at hj; subst hj; exact ⟨v, rfl, h⟩
    | succ j => simp at hj
def CR (ρ : RM) (c : EV) (get : Nat → Option Value) : Prop := (isAgg c || Zw c) = true ∧ ∀ j e, cget c j = some e → ∃ v, get j = some v ∧ v.oneCell' = true ∧ VR ρ e v
def RowR (ρ : RM) (row : Row) (L : Loc) (w : World) : Prop :=
  clen row.c ≤ L.room ∧
  if row.own then L.base = 0 ∧ ∃ (c : Array Value) (t : TypeId), w.heap[L.block]? = some (.cells c t (0, 0)) ∧ L.room ≤ c.size ∧ CR ρ row.c (fun j => c[j]?)
  else CR ρ row.c (fun j => w.cell? ⟨L.block, L.base + j, none⟩)
theorem Zeo {c : EV} (h : isAgg c = true) : (isAgg c || Zw c) = true := by rw [h]; rfl
structure Fr (w0 : World) (S : List Nat) (w : World) : Prop where
  os : w.os = w0.os
  tape : w.tape = w0.tape
  output : w.output = w0.output
  size : w0.heap.size ≤ w.heap.size
  block : ∀ b, b < w0.heap.size → b ∉ S → w.heap[b]? = w0.heap[b]?
theorem Fr.refl (w : World) (S : List Nat) : Fr w S w := ⟨rfl, rfl, rfl, Nat.le_refl _, fun _ _ _ => rfl⟩
structure HR (w0 : World) (S : List Nat) (ρ : RM) (h : List Row) (w : World) : Prop where
  out : ∀ i, h[i]? = none → ρ i = none
  rows : ∀ (i : Nat) (row : Row), h[i]? = some row → (row.c = .unk ∧ ρ i = (if row.own then some none else none)) ∨ ∃ L, ρ i = some (some L) ∧ RowR ρ row L w
  lt : ∀ (i : Nat) L, ρ i = some (some L) → L.block < w.heap.size
  own : ∀ (i : Nat) (row : Row) L, h[i]? = some row → row.own = true → ρ i = some (some L) → L.block ∈ S ∨ w0.heap.size ≤ L.block
  apart : ∀ (i j : Nat) (ri : Row) Li Lj, h[i]? = some ri → i ≠ j → ri.own = true → ρ i = some (some Li) → ρ j = some (some Lj) → Li.block ≠ Lj.block
  frame : Fr w0 S w
  froz : ∀ b o, ρ.F b = some o → w.heap[b]? = some o
  ice : ∀ (i : Nat) (row : Row) L, h[i]? = some row → row.own = true → ρ i = some (some L) → ρ.F L.block = none
  cold : ∀ b o, ρ.F b = some o → ρ.F0 b ∨ b ∈ S ∨ w0.heap.size ≤ b
theorem ZfL {ρ ρ' : RM} (h : le0 ρ ρ') {c : EV} {get : Nat → Option Value} (hc : CR ρ c get) : CR ρ' c get :=
  ⟨hc.1, fun j e hj => let ⟨v, h1, h2, h3⟩ := hc.2 j e hj; ⟨v, h1, h2, Zcg h e v h3⟩⟩
theorem ZmK {ρ ρ' : RM} (h : le ρ ρ') {c : EV} {get : Nat → Option Value} (hc : CR ρ c get) : CR ρ' c get := ZfL ⟨h.1, h.2.1⟩ hc
theorem HR.live {w0 : World} {S : List Nat} {ρ : RM} {h : List Row} {w : World} (hh : HR w0 S ρ h w) {i : Nat} {row : Row} (hi : h[i]? = some row) (ha : isAgg row.c = true) : ∃ L, ρ i = some (some L) ∧ RowR ρ row L w := by
  rcases hh.rows i row hi with ⟨hu, _⟩ | h
  · rw [hu] at ha; simp [isAgg] at ha
  · exact h
theorem RowR.read {ρ : RM} {row : Row} {L : Loc} {w : World} (h : RowR ρ row L w) : CR ρ row.c (fun j => w.cell? ⟨L.block, L.base + j, none⟩) := by
  obtain ⟨_, h⟩ := h
  split at h
  · obtain ⟨hb, c, t, hc, _, hr⟩ := h
    refine ⟨hr.1, fun j e hj => ?_⟩
    obtain ⟨v, h1, h2, h3⟩ := hr.2 j e hj
    refine ⟨v, ?_, h2, h3⟩
    simpa [World.cell?, hc, hb] using h1
  · exact h
theorem RowR.same {ρ : RM} {row : Row} {L : Loc} {w w' : World} (h : RowR ρ row L w) (e : w'.heap[L.block]? = w.heap[L.block]?) : RowR ρ row L w' := by
  obtain ⟨hz, h⟩ := h
  refine ⟨hz, ?_⟩
  split at h
  · obtain ⟨hb, c, t, hc, h2, hr⟩ := h
    rw [if_pos (by assumption)]
    exact ⟨hb, c, t, e.trans hc, h2, hr⟩
  · rw [if_neg (by assumption)]
    refine ⟨h.1, fun j x hj => ?_⟩
    obtain ⟨v, h1, h2⟩ := h.2 j x hj
    refine ⟨v, ?_, h2⟩
    simpa [World.cell?, e] using h1
theorem RowR.mono0 {ρ ρ' : RM} {row : Row} {L : Loc} {w : World} (h : RowR ρ row L w) (hl : le0 ρ ρ') : RowR ρ' row L w := by
  obtain ⟨hz, h⟩ := h
  refine ⟨hz, ?_⟩
  split at h
  · obtain ⟨hb, c, t, hc, h2, hr⟩ := h
    rw [if_pos (by assumption)]
    exact ⟨hb, c, t, hc, h2, ZfL hl hr⟩
  · rw [if_neg (by assumption)]
    exact ZfL hl h
theorem RowR.mono {ρ ρ' : RM} {row : Row} {L : Loc} {w : World} (h : RowR ρ row L w) (hl : le ρ ρ') : RowR ρ' row L w := h.mono0 ⟨hl.1, hl.2.1⟩
theorem HR.refz {w0 w : World} {S : List Nat} {ρ : RM} {h : List Row} (hh : HR w0 S ρ h w) {F0 : Nat → Prop} (hc : ∀ b o, ρ.F b = some o → F0 b ∨ b ∈ S ∨ w0.heap.size ≤ b) : HR w0 S ⟨ρ.at_, ρ.F, F0⟩ h w :=
  ⟨hh.out, fun i r hi => (hh.rows i r hi).imp id fun ⟨L, h1, h2⟩ => ⟨L, h1, h2.mono0 ⟨fun _ _ h => .inl h, Zae _⟩⟩, hh.lt, hh.own, hh.apart, hh.frame, hh.froz, hh.ice, hc⟩
end Go.Sx
