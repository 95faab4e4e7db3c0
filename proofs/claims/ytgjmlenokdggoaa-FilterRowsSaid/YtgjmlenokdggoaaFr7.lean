/-
  The law of what filters one behind the other tell of any samples: more than six are taken for six. Conditions: none.
-/
import Derived.Test.YtgjmlenokdggoaaFr6
namespace Go.Proofs.Ytgjmlenokdggoaa.Q6
open Go Go.Sx
set_option maxRecDepth 100000
set_option linter.unusedVariables false
def wayOn (CK : CallK) (OK : OrcK) (F : EV × List Row × List Nat → Option (Nat × List Leaf)) (R : KC) (v : EV) (m : Nat) (l : List Int) (b : Bool) : Option (Nat × List Leaf) :=
  evK CK OK R { env := [(0, v), (1, .ro (.ints .i64 l) m 1), (4, .bool false), (5, .unk), (6, .unk), (7, .unk), (8, .unk), (9, .unk), (10, .unk), (11, .unk), (12, .unk), (15, .bool b), (26, .unk), (34, .unk), (69, .unk), (77, .unk), (87, .unk), (103, .unk)], heap := [], mvs := [], gone := [], m := 0 } (fun x => match x with
      | (.normal, st) => endK sf4 0 st F none
      | (.ret, st) => endK sf4 0 st F none
      | _ => none) none
theorem fn_way (CK : CallK) (OK : OrcK) (F : EV × List Row × List Nat → Option (Nat × List Leaf)) (R : KC) (n : Nat) (t : List Int) (m : Nat) (l : List Int) :
    fnK CK OK sf4 (.seq (.reg r4_0) (.seq (.seq (.reg r4_1) (.cond (.t 15) (.reg r4_2) .skip)) R)) [.ro (.ints .i64 t) n 5, .ro (.ints .i64 l) m 1] [] F none = _root_.cond (decide ((6 : Int) < (n : Int))) (if (0 : Int) ≤ 6 ∧ (6 : Int) ≤ (n : Int) then wayOn CK OK F R (.ro (.ints .i64 t) 6 5) m l true else none) (wayOn CK OK F R (.ro (.ints .i64 t) n 5) m l false) := by
  kernel_rfl
def wayZ (OK : OrcK) (F : EV × List Row × List Nat → Option (Nat × List Leaf)) (X Y : KC) (t : List Int) (m : Nat) (l : List Int) : Option (Nat × List Leaf) :=
  altK (g12 (0, [.l t])) [fun r => asE r (evK (ckOfM es4) OK (.seq (.block 0 X) Y) { env := [(0, .ro (.ints .i64 t) 6 5), (1, .ro (.ints .i64 l) m 1), (4, .unk), (5, .nils), (6, .int .i64 1), (7, .nils), (8, .int .i64 0), (9, .unk), (10, .unk), (11, .unk), (12, .unk), (15, .unk), (26, .unk), (34, .unk), (69, .unk), (77, .unk), (87, .unk), (103, .unk)], heap := [], mvs := [], gone := [], m := 0 } (fun x => match x with
      | (.normal, st) => endK sf4 0 st F none
      | (.ret, st) => endK sf4 0 st F none
      | _ => none) none) none, fun r => asL r (fun h1 r => asL r (fun h2 r => asL r (fun h3 r => asL r (fun h4 r => asL r (fun h5 r => asL r (fun h6 r => asE r (evK (ckOfM es4) OK (.seq (.block 0 X) Y) { env := [(0, .ro (.ints .i64 t) 6 5), (1, .ro (.ints .i64 l) m 1), (4, .unk), (5, .slice 0 0 6 1), (6, .int .i64 0), (7, .nils), (8, .int .i64 0), (9, .unk), (10, .unk), (11, .unk), (12, .unk), (15, .unk), (26, .unk), (34, .unk), (69, .unk), (77, .unk), (87, .unk), (103, .unk)], heap := [⟨true, .agg [.ptr 1 0, .ptr 2 0, .ptr 3 0, .ptr 4 0, .ptr 5 0, .ptr 6 0]⟩, ⟨true, .ints .i64 h1⟩, ⟨true, .ints .i64 h2⟩, ⟨true, .ints .i64 h3⟩, ⟨true, .ints .i64 h4⟩, ⟨true, .ints .i64 h5⟩, ⟨true, .ints .i64 h6⟩], mvs := [], gone := [], m := 0 } (fun x => match x with
      | (.normal, st) => endK sf4 0 st F none
      | (.ret, st) => endK sf4 0 st F none
      | _ => none) none) none) none) none) none) none) none) none] none
theorem way_z (OK : OrcK) (F : EV × List Row × List Nat → Option (Nat × List Leaf)) (X Y : KC) (t : List Int) (m : Nat) (l : List Int) (b : Bool) :
    wayOn (ckOfM es4) OK F (.seq (.reg r4_3) (.seq (.reg r4_4) (.seq (.seq (.reg r4_5) (.block 0 (.seq (.kill [4, 9, 10, 11, 12, 15, 26, 34, 69, 77, 87, 103]) X))) Y))) (.ro (.ints .i64 t) 6 5) m l b = wayZ OK F X Y t m l := by
  kernel_rfl
theorem way_one (OK : OrcK) (F : EV × List Row × List Nat → Option (Nat × List Leaf)) (X Y : KC) (t : List Int) (m : Nat) (l : List Int) :
    wayOn (ckOfM es4) OK F (.seq (.reg r4_3) (.seq (.reg r4_4) (.seq (.seq (.reg r4_5) (.block 0 (.seq (.kill [4, 9, 10, 11, 12, 15, 26, 34, 69, 77, 87, 103]) X))) Y))) (.ro (.ints .i64 t) 6 5) m l true = wayOn (ckOfM es4) OK F (.seq (.reg r4_3) (.seq (.reg r4_4) (.seq (.seq (.reg r4_5) (.block 0 (.seq (.kill [4, 9, 10, 11, 12, 15, 26, 34, 69, 77, 87, 103]) X))) Y))) (.ro (.ints .i64 t) 6 5) m l false := by
  rw [way_z, way_z]
theorem fn_more (OK : OrcK) (F : EV × List Row × List Nat → Option (Nat × List Leaf)) (X Y : KC) (n : Nat) (t : List Int) (m : Nat) (l : List Int) (h : 6 < n) :
    fnK (ckOfM es4) OK sf4 (.seq (.reg r4_0) (.seq (.seq (.reg r4_1) (.cond (.t 15) (.reg r4_2) .skip)) (.seq (.reg r4_3) (.seq (.reg r4_4) (.seq (.seq (.reg r4_5) (.block 0 (.seq (.kill [4, 9, 10, 11, 12, 15, 26, 34, 69, 77, 87, 103]) X))) Y))))) [.ro (.ints .i64 t) n 5, .ro (.ints .i64 l) m 1] [] F none = fnK (ckOfM es4) OK sf4 (.seq (.reg r4_0) (.seq (.seq (.reg r4_1) (.cond (.t 15) (.reg r4_2) .skip)) (.seq (.reg r4_3) (.seq (.reg r4_4) (.seq (.seq (.reg r4_5) (.block 0 (.seq (.kill [4, 9, 10, 11, 12, 15, 26, 34, 69, 77, 87, 103]) X))) Y))))) [.ro (.ints .i64 t) 6 5, .ro (.ints .i64 l) m 1] [] F none := by
  rw [fn_way, fn_way, decide_eq_true (show (6 : Int) < (n : Int) by omega), decide_eq_false (show ¬ (6 : Int) < ((6 : Nat) : Int) by omega), cond_true, cond_false, if_pos (by omega), way_one]
theorem six (ls : List Leaf) : fillA ⟨[.ro (.ints .i64) (.c 6) 5, .ro (.ints .i64) .h 1], []⟩ ls (fun args h => fnK (ckOfM es4) (okOfM os4) sf4 kc4 args h (findRes aout4 0) none) none = g4 (0, ls) := by kernel_rfl
def gm (s : Nat × List Leaf) : Option (Nat × List Leaf) := fillA ⟨[.ro (.ints .i64) .h 5, .ro (.ints .i64) .h 1], []⟩ s.2 (fun args h => fnK (ckOfM es4) (okOfM os4) sf4 kc4 args h (findRes aout4 0) none) none
def entm : Ent := ⟨[⟨[.ro (.ints .i64) .h 5, .ro (.ints .i64) .h 1], []⟩], aout4, gm⟩
theorem okm (n : Nat) : EntSound (evF tab (n + 21)) 4 entm :=
  fn_sound (n := n + 20) (ck4 n) (OK := okOfM os4) (body := kc4) (show OrcsOk (okOfM os4) (evF tab (n + 20)) kc4 from ⟨trivial, ⟨⟨trivial, ⟨trivial, trivial⟩⟩, ⟨trivial, ⟨trivial, ⟨⟨trivial, ⟨trivial, (okOfM_ok (os := os4) (i := 0) (o := orc4_0) rfl (snd4_0 n))⟩⟩, ⟨trivial, ⟨trivial, ⟨⟨trivial, ⟨⟨trivial, ⟨trivial, trivial⟩⟩, trivial⟩⟩, ⟨⟨trivial, ⟨trivial, (okOfM_ok (os := os4) (i := 2) (o := orc4_2) rfl (snd4_2 n))⟩⟩, ⟨trivial, ⟨trivial, trivial⟩⟩⟩⟩⟩⟩⟩⟩⟩⟩⟩) t4 (by kernel_rfl) (all_ins (Q := fun i sh => ∀ ls, fillA sh ls (fun args h => fnK (ckOfM es4) (okOfM os4) sf4 kc4 args h (findRes aout4 0) none) none = gm (i, ls)) (l := [⟨[.ro (.ints .i64) .h 5, .ro (.ints .i64) .h 1], []⟩]) ⟨fun ls => rfl, trivial⟩)
theorem gm_eq (n : Nat) (t : List Int) (m : Nat) (l : List Int) (h : 6 < n) : gm (0, [.n n, .l t, .n m, .l l]) = g4 (0, [.l t, .n m, .l l]) := by
  have e1 := fillA_of (p := ⟨[.ro (.ints .i64) .h 5, .ro (.ints .i64) .h 1], []⟩) (args := [.ro (.ints .i64 t) n 5, .ro (.ints .i64 l) m 1]) (h := []) (ls := [.n n, .l t, .n m, .l l]) rfl (fun args h => fnK (ckOfM es4) (okOfM os4) sf4 kc4 args h (findRes aout4 0) none) none
  have e2 := fillA_of (p := ⟨[.ro (.ints .i64) (.c 6) 5, .ro (.ints .i64) .h 1], []⟩) (args := [.ro (.ints .i64 t) 6 5, .ro (.ints .i64 l) m 1]) (h := []) (ls := [.l t, .n m, .l l]) rfl (fun args h => fnK (ckOfM es4) (okOfM os4) sf4 kc4 args h (findRes aout4 0) none) none
  exact e1.trans ((fn_more (okOfM os4) (findRes aout4 0) (.orc 0 (.loop l4_11)) (.seq (.reg r4_12) (.seq (.reg r4_13) (.seq (.seq (.reg r4_14) (.cond (.t 69) (.seq (.reg r4_15) (.seq (.kill [0, 1, 5, 6, 7, 8, 9, 10, 11, 12, 15, 26, 34, 69, 77, 87, 103]) .ret)) .skip)) (.seq (.seq (.reg r4_16) (.block 2 (.seq (.kill [0, 4, 6, 8, 9, 11, 12, 15, 26, 34, 69, 77, 87, 103]) (.orc 2 (.loop l4_27))))) (.seq (.reg r4_28) (.seq (.kill [0, 1, 5, 6, 7, 8, 9, 10, 11, 12, 15, 26, 34, 69, 77, 87, 103]) .ret)))))) n t m l h).trans (e2.symm.trans (six _)))
theorem ev_more (n : Nat) (t : List Int) (m : Nat) (l : List Int) (h : 6 < n) (ht : t.length = n * 5) (hl : l.length = m * 1) : evF tab 21 4 [.ro (.ints .i64 t) n 5, .ro (.ints .i64 l) m 1] [] = some (.bool true, [], []) :=
  (okm 0).ret (i := 0) (ls := [.n n, .l t, .n m, .l l]) (j := 0) (r := [.b true]) ((gm_eq n t m l h).trans (core_m t (by omega) m l hl)) rfl rfl rfl rfl
end Go.Proofs.Ytgjmlenokdggoaa.Q6
