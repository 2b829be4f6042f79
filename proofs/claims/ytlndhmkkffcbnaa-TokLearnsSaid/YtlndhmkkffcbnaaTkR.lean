/-
  slices.Replace of two by one; merge.
-/
import Derived.Test.YtlndhmkkffcbnaaTkL
import Derived.Laws.CopyOwn
import Derived.Laws.CopyRow
import Derived.Lib.SliceRun
namespace Go.Proofs.Ytlndhmkkffcbnaa.TkR
open Go.RowKit Go.Proofs.Ytlndhmkkffcbnaa.Kit Go.Proofs.Ytlndhmkkffcbnaa.TkM Go.Proofs.Ytlndhmkkffcbnaa.TkP Go.Proofs.Ytlndhmkkffcbnaa.TkQ Go.Proofs.Ytlndhmkkffcbnaa.TkW Go.Proofs.Ytlndhmkkffcbnaa.TkA Go.Proofs.Ytlndhmkkffcbnaa.TkN Go.Proofs.Ytlndhmkkffcbnaa.TkO Go.Proofs.Ytlndhmkkffcbnaa.TkL
attribute [local go_sem high] max_imax min_imin
attribute [local go_sem ↓] Go.wp_at_zero Go.wp_at_succ
set_option linter.unusedVariables false
section
variable {w : World}
theorem blk_row {w : World} {g : Nat} {t : TypeId} {cs : Array Value} (h : Blk w g t cs) (ds : Array Value) : Blk (w.setRow g ds) g t ds := setRow_heap w g cs ds t (0, 0) h
theorem chg_row (w : World) (g : Nat) (ds : Array Value) : Chg (fun k => k = g) w (w.setRow g ds) := ⟨rfl, rfl, rfl, by simp, fun k _ hk => setRow_other w g k ds hk⟩
section
variable {P : Program}
theorem wpList_app_run {w w' : World} {t u : TypeId} {v vs vx : Value} {ops : Array Oper} {rest : List Oper} {o : Oper} {ac : Act} {Q : Exit → Act → World → Prop} (hgd : o.guard = none) (s x : Operand)
    (ho : o.op = .call { callee := .builtin .append, args := #[s, x], argTypes := #[t, u] }) (hs : ac.eval s = vs) (hx : ac.eval x = vx) (hrun : (Builtin.append_ #[t, u] o.type #[vs, vx]).run P w = .ok v w')
    (h : wpList P ops Q rest (ac.put o.dst v) w') : wpList P ops Q (o :: rest) ac w :=
  wpList_plain hgd fun _ hK => by
    unfold Oper.wp execOp
    simp only [ho, resolve, invoke, builtin, Sem.run_bind, Sem.run_pure, Result.andThen_ok, List.map_toArray, List.map_cons, List.map_nil, hs, hx, hrun]
    exact hK _ _ h
theorem wpList_copy_run {w w' : World} {t u : TypeId} {v vs vx : Value} {ops : Array Oper} {rest : List Oper} {o : Oper} {ac : Act} {Q : Exit → Act → World → Prop} (hgd : o.guard = none) (s x : Operand)
    (ho : o.op = .call { callee := .builtin .copy, args := #[s, x], argTypes := #[t, u] }) (hs : ac.eval s = vs) (hx : ac.eval x = vx) (hrun : (Builtin.copy_ #[t, u] o.type #[vs, vx]).run P w = .ok v w')
    (h : wpList P ops Q rest (ac.put o.dst v) w') : wpList P ops Q (o :: rest) ac w :=
  wpList_plain hgd fun _ hK => by
    unfold Oper.wp execOp
    simp only [ho, resolve, invoke, builtin, Sem.run_bind, Sem.run_pure, Result.andThen_ok, List.map_toArray, List.map_cons, List.map_nil, hs, hx, hrun]
    exact hK _ _ h
theorem wpList_clear_run {w w' : World} {t : TypeId} {v vs : Value} {ops : Array Oper} {rest : List Oper} {o : Oper} {ac : Act} {Q : Exit → Act → World → Prop} (hgd : o.guard = none) (s : Operand)
    (ho : o.op = .call { callee := .builtin .clear, args := #[s], argTypes := #[t] }) (hs : ac.eval s = vs) (hrun : (Builtin.clear_ #[t] o.type #[vs]).run P w = .ok v w')
    (h : wpList P ops Q rest (ac.put o.dst v) w') : wpList P ops Q (o :: rest) ac w :=
  wpList_plain hgd fun _ hK => by
    unfold Oper.wp execOp
    simp only [ho, resolve, invoke, builtin, Sem.run_bind, Sem.run_pure, Result.andThen_ok, List.map_toArray, List.map_cons, List.map_nil, hs, hrun]
    exact hK _ _ h
end
theorem run_clear1 (w : World) (ty : TypeId) {g o c : Nat} {cur : Array Value} (hb : Blk w g 3 cur) (ho : o < cur.size) :
    (Builtin.clear_ #[24] ty #[.slice (some ⟨g, o, none⟩) 1 c]).run Try.prog w = .ok (.tuple #[]) (w.setCell ⟨g, o, none⟩ (.int .i64 0)) :=
  Lib.run_clear_slice (P := Try.prog) w 24 3 ty (.int .i64 0) Try.underlying24 (fun w => by kernel_rfl) rfl rfl g o 1 c (by omega) (fun j hj => by
    obtain rfl : j = 0 := by omega
    rw [Nat.add_zero, hb.cell o (Array.getElem?_eq_getElem ho)]
    rfl) (fun j hj => hb.frozen _)
def ReplR (w : World) (g c n : Nat) (xs : List Value) (e : Ending) (w' : World) : Prop := e = .returned (.slice (some ⟨g, 0, none⟩) n c) ∧ (∃ cur', Blk w' g 3 cur' ∧ cur'.size = c ∧ cur'.toList.take n = xs) ∧ Chg (fun k => k = g) w w'
theorem i3 : ∃ i, Try.prog.info? 3 = some i ∧ i.size = 1 := by
  have h : (Try.prog.info? 3).map (·.size) = some 1 := by kernel_rfl
  obtain ⟨i, h1, h2⟩ := Option.map_eq_some_iff.1 h
  exact ⟨i, h1, h2⟩
set_option maxRecDepth 100000 in
set_option maxHeartbeats 4000000 in
theorem replace_last {g c v i : Nat} {cur : Array Value} {t : Int} (hb : Blk w g 3 cur) (hc : cur.size = c) (hcm : c ≤ maxLen) (hi : i + 2 ≤ c) (hv : Blk w v 3 #[.int .i64 t]) (hne : v ≠ g) :
    Calls Try.prog 34 #[.slice (some ⟨g, 0, none⟩) (i + 2) c, .int .i64 i, .int .i64 ((i + 2 : Nat) : Int), .slice (some ⟨v, 0, none⟩) 1 1] w (ReplR w g c (i + 1) (cur.toList.take i ++ [.int .i64 t])) := by
  unfold maxLen at hcm
  obtain ⟨i3, hi3, hs3⟩ := i3
  have HAP := Lib.hid (run_append_room (P := Try.prog) w 24 24 3 i3 Try.underlying24 hi3 g i c cur hb ⟨v, 0, none⟩ 1 1 [.int .i64 t] (by rw [hs3]; rfl) (fun j u hu => by rw [Go.WideShapes.add_plain, Nat.zero_add]; exact hv.cell j (by simpa using hu)) (by simp [Value.oneCell']) (by omega) (by rw [hs3]; simp; omega))
  rw [hs3] at HAP
  have hs1 : (cur.toList.take (i * 1) ++ [Value.int .i64 t] ++ cur.toList.drop (i * 1 + [Value.int .i64 t].length)).length = c := by simp; omega
  have ht1 : (cur.toList.take (i * 1) ++ [Value.int .i64 t] ++ cur.toList.drop (i * 1 + [Value.int .i64 t].length)).take (i + 1) = cur.toList.take i ++ [Value.int .i64 t] := by
    rw [List.take_append_of_le_length (by simp; omega), List.take_of_length_le (by simp; omega), Nat.mul_one]
  obtain ⟨cur1, hcur1⟩ : ∃ x : List Value, Hid ((cur.toList.take (i * 1) ++ [Value.int .i64 t] ++ cur.toList.drop (i * 1 + [Value.int .i64 t].length)) = x) := ⟨_, Lib.hid rfl⟩
  rw [hcur1.out] at HAP hs1 ht1
  have HB1 := Lib.hid (blk_row hb cur1.toArray)
  have HC1 := Lib.hid (chg_row w g cur1.toArray)
  obtain ⟨W1, HW1⟩ : ∃ x, Hid (w.setRow g cur1.toArray = x) := ⟨_, Lib.hid rfl⟩
  rw [HW1.out] at HAP HB1 HC1
  have HCL := Lib.hid (run_clear1 (c := c - (i + 1)) W1 0 HB1.out (o := i + 1) (by simp [hs1]; omega))
  have HFIN : Hid (ReplR w g c (i + 1) (cur.toList.take i ++ [.int .i64 t]) (.returned (.slice (some ⟨g, 0, none⟩) (i + 1) c)) (W1.setCell ⟨g, i + 1, none⟩ (.int .i64 0))) := Lib.hid
    ⟨rfl, ⟨_, HB1.out.set (i + 1) _, by simp [hs1], by
      rw [Array.toList_setIfInBounds, List.take_set_of_le (by omega)]
      exact ht1⟩, HC1.out.trans ((Chg.refl (fun k => k = g) W1).set (p := ⟨g, i + 1, none⟩) (.inl rfl) _)⟩
  clear hb hs1 ht1 hcur1 HW1 hv
  have hcl := HCL.out
  go_enter Try.func34, Try.ntmps34
  go_wp2_with (at_builtin; refine wpList_app_run rfl (.tmp 32) (.tmp 33) rfl rfl rfl HAP.out ?_)
  go_ret
  exact HFIN.out
theorem ints_take (l : List Int) (k : Nat) : ints (l.take k) = (ints l).take k := by simp [ints, List.map_take]
theorem ints_drop (l : List Int) (k : Nat) : ints (l.drop k) = (ints l).drop k := by simp [ints, List.map_drop]
theorem mid_drop {cur : List Value} {i : Nat} (x : Value) (hi : i < cur.length) : (cur.take i ++ [x] ++ cur.drop (i + 1)).drop (i + 2) = cur.drop (i + 2) := by
  rw [List.drop_append, List.drop_of_length_le (by simp; omega), List.nil_append, List.drop_drop]
  congr 1
  simp
  omega
theorem mid_take {cur : List Value} {i : Nat} (x : Value) (hi : i < cur.length) : (cur.take i ++ [x] ++ cur.drop (i + 1)).take (i + 1) = cur.take i ++ [x] := by
  rw [List.take_append_of_le_length (by simp; omega), List.take_of_length_le (by simp; omega)]
set_option maxRecDepth 100000 in
set_option maxHeartbeats 4000000 in
theorem replace_mid {g c v i r : Nat} {cur : Array Value} {t : Int} {l : List Int} (hb : Blk w g 3 cur) (hc : cur.size = c) (hcm : c ≤ maxLen) (hr : 0 < r) (hi : i + 2 + r ≤ c) (hv : Blk w v 3 #[.int .i64 t])
    (hl : l.length = i + 2 + r) (hx : cur.toList.take (i + 2 + r) = ints l) :
    Calls Try.prog 34 #[.slice (some ⟨g, 0, none⟩) (i + 2 + r) c, .int .i64 i, .int .i64 ((i + 2 : Nat) : Int), .slice (some ⟨v, 0, none⟩) 1 1] w (ReplR w g c (i + 1 + r) (ints (put l i t))) := by
  unfold maxLen at hcm
  have HX := Lib.hid hx
  have HL := Lib.hid hl
  have HCS := Lib.hid hc
  clear hx hl hc
  go_enter Try.func34, Try.ntmps34
  go_upto_region 17 with (fail)
  go_big_quiet (fail)
  obtain ⟨W1, HW1⟩ : ∃ x, Hid (w.drewN nq = x) := ⟨_, Lib.hid rfl⟩
  rw [HW1.out]
  have hb1 : Blk W1 g 3 cur := by rw [← HW1.out]; exact hb
  have hv1 : Blk W1 v 3 #[.int .i64 t] := by rw [← HW1.out]; exact hv
  have HC1 : Hid (Chg (fun k => k = g) w W1) := Lib.hid (by rw [← HW1.out]; exact (Chg.refl _ _).drewN _)
  have hcp := run_copy_row (P := Try.prog) W1 24 24 3 3 g i (i + 1 + r - i) (c - i) ⟨v, 0, none⟩ 1 1 cur 3 [.int .i64 t] Try.underlying24 (by kernel_rfl) hb1 (by show 1 = min 1 (i + 1 + r - i); omega) (fun j u hu => by rw [Go.WideShapes.add_plain, Nat.zero_add]; exact hv1.cell j (by simpa using hu)) (by have := HCS.out; simp; omega) (by simp [Value.oneCell'])
  have HD2 : Hid ((cur.toList.take i ++ [Value.int .i64 t] ++ cur.toList.drop (i + [Value.int .i64 t].length)).drop (i + 2) = cur.toList.drop (i + 2)) := Lib.hid (mid_drop _ (by have := HCS.out; simp; omega))
  have HT2 : Hid ((cur.toList.take i ++ [Value.int .i64 t] ++ cur.toList.drop (i + [Value.int .i64 t].length)).take (i + 1) = cur.toList.take i ++ [Value.int .i64 t]) := Lib.hid (mid_take _ (by have := HCS.out; simp; omega))
  have HLN2 : Hid ((cur.toList.take i ++ [Value.int .i64 t] ++ cur.toList.drop (i + [Value.int .i64 t].length)).length = c) := Lib.hid (by have := HCS.out; simp; omega)
  obtain ⟨cur2, hcur2⟩ : ∃ x : List Value, Hid ((cur.toList.take i ++ [Value.int .i64 t] ++ cur.toList.drop (i + [Value.int .i64 t].length)) = x) := ⟨_, Lib.hid rfl⟩
  rw [hcur2.out] at hcp HD2 HT2 HLN2
  have HB2 := Lib.hid (blk_row hb1 cur2.toArray)
  have HC2 := Lib.hid (HC1.out.trans (chg_row W1 g cur2.toArray))
  obtain ⟨W2, HW2⟩ : ∃ x, Hid (W1.setRow g cur2.toArray = x) := ⟨_, Lib.hid rfl⟩
  rw [HW2.out] at hcp HB2 HC2
  clear hb hv hb1 hv1 HW1 HW2 HC1
  go_upto_region 18 with (fail)
  clear hcp
  have HTK : Hid ((cur2.drop (i + 2)).take r = ints (l.drop (i + 2))) := Lib.hid (by
    rw [HD2.out, ints_drop, ← HX.out, List.drop_take]
    congr 1
    omega)
  have HTL : Hid ((ints (l.drop (i + 2))).length = r) := Lib.hid (by have := HL.out; rw [ints_len, List.length_drop]; omega)
  have hcq := run_copy_row (P := Try.prog) W2.drew 24 24 3 3 g (i + 1) r (c - (i + 1)) ⟨g, i + 2, none⟩ r (c - (i + 2)) cur2.toArray 3 (ints (l.drop (i + 2))) Try.underlying24 (by kernel_rfl) HB2.out (by
      rw [HTL.out]; exact (Nat.min_self r).symm) (fun j u hu => by
      have hj : j < r := by
        have := (List.getElem?_eq_some_iff.1 hu).1
        rw [HTL.out] at this
        exact this
      rw [Go.WideShapes.add_plain]
      refine HB2.out.cell _ ?_
      rw [← HTK.out, List.getElem?_take_of_lt hj, List.getElem?_drop] at hu
      simpa using hu) (by have := HLN2.out; rw [HTL.out]; simp; omega) (ints_one _)
  rw [HTL.out] at hcq
  have HT3 : Hid ((cur2.toArray.toList.take (i + 1) ++ ints (l.drop (i + 2)) ++ cur2.toArray.toList.drop (i + 1 + r)).take (i + 1 + r) = ints (put l i t)) := Lib.hid (by
    show (cur2.take (i + 1) ++ ints (l.drop (i + 2)) ++ cur2.drop (i + 1 + r)).take (i + 1 + r) = ints (put l i t)
    have h1 : (cur2.take (i + 1)).length = i + 1 := by have := HLN2.out; simp; omega
    rw [List.take_append_of_le_length (by rw [List.length_append, h1, HTL.out]; omega), List.take_of_length_le (by rw [List.length_append, h1, HTL.out]; omega), HT2.out]
    unfold put
    rw [← ints_append, ← ints_append, ints_take, ← HX.out, List.take_take, Nat.min_eq_left (by omega)]
    rfl)
  have HLN3 : Hid ((cur2.toArray.toList.take (i + 1) ++ ints (l.drop (i + 2)) ++ cur2.toArray.toList.drop (i + 1 + r)).length = c) := Lib.hid (by
    show (cur2.take (i + 1) ++ ints (l.drop (i + 2)) ++ cur2.drop (i + 1 + r)).length = c
    have := HLN2.out
    rw [List.length_append, List.length_append, HTL.out]; simp; omega)
  obtain ⟨cur3, hcur3⟩ : ∃ x : List Value, Hid ((cur2.toArray.toList.take (i + 1) ++ ints (l.drop (i + 2)) ++ cur2.toArray.toList.drop (i + 1 + r)) = x) := ⟨_, Lib.hid rfl⟩
  rw [hcur3.out] at hcq HT3 HLN3
  have HB3 := Lib.hid (blk_row (HB2.out.drew) cur3.toArray)
  have HC3 := Lib.hid (HC2.out.drew.trans (chg_row W2.drew g cur3.toArray))
  obtain ⟨W3, HW3⟩ : ∃ x, Hid (W2.drew.setRow g cur3.toArray = x) := ⟨_, Lib.hid rfl⟩
  rw [HW3.out] at hcq HB3 HC3
  go_region
  clear hcq
  have hcl := run_clear1 (c := c - (i + 1 + r)) W3 0 HB3.out (o := i + 1 + r) (by have := HLN3.out; simp; omega)
  have hsb : i + 2 + r - (i + 1 + r) = 1 := by omega
  have HFIN : Hid (ReplR w g c (i + 1 + r) (ints (put l i t)) (.returned (.slice (some ⟨g, 0, none⟩) (i + 1 + r) c)) (W3.setCell ⟨g, i + 1 + r, none⟩ (.int .i64 0))) := Lib.hid
    ⟨rfl, ⟨_, HB3.out.set (i + 1 + r) _, by have := HLN3.out; simp; omega, by
      rw [Array.toList_setIfInBounds, List.take_set_of_le (by omega)]
      exact HT3.out⟩, HC3.out.trans ((Chg.refl (fun k => k = g) W3).set (p := ⟨g, i + 1 + r, none⟩) (.inl rfl) _)⟩
  go_wp2_with fail
  go_ret
  exact HFIN.out
end
end Go.Proofs.Ytlndhmkkffcbnaa.TkR
