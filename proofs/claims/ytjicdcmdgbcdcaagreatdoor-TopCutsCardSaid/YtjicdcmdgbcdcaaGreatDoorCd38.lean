/-
  copy, clear and append in place at cells of two, on a block that is known whole.
  slices.Delete at cells.
-/
import Derived.Test.YtjicdcmdgbcdcaaGreatDoorCd35
import Derived.Laws.CopyOwn
import Derived.Lib.AppendZerosOnto
import Derived.Lib.Overlaps
import Derived.Laws.Externs
section
namespace Go.Proofs.YtjicdcmdgbcdcaaGreatDoor.Scr
set_option linter.unusedSimpArgs false
set_option linter.unusedVariables false
open Go Go.RowKit Mem Turn Ring

theorem flatC_take (rs : List (Int × Value)) (i : Nat) : flatC (rs.take i) = (flatC rs).take (i * 2) := by
  induction rs generalizing i with
  | nil => simp [flatC]
  | cons r l ih =>
    cases i with
    | zero => simp [flatC]
    | succ i =>
      rw [List.take_succ_cons, show (i + 1) * 2 = i * 2 + 1 + 1 from by omega]
      simp [flatC, ih]
theorem flatC_drop (rs : List (Int × Value)) (i : Nat) : flatC (rs.drop i) = (flatC rs).drop (i * 2) := by
  induction rs generalizing i with
  | nil => simp [flatC]
  | cons r l ih =>
    cases i with
    | zero => simp
    | succ i =>
      rw [List.drop_succ_cons, show (i + 1) * 2 = i * 2 + 1 + 1 from by omega]
      simp [flatC, ih]
theorem flatC_one (rs : List (Int × Value)) (h : ∀ r ∈ rs, r.2.oneCell' = true) : ∀ u ∈ flatC rs, u.oneCell' = true := by
  induction rs with
  | nil => intro u hu; cases hu
  | cons r l ih =>
    intro u hu
    simp only [flatC, List.mem_cons] at hu
    rcases hu with rfl | rfl | hu
    · rfl
    · exact h r (by simp)
    · exact ih (fun r hr => h r (by simp [hr])) u hu
abbrev zCell : Int × Value := (0, .slice none 0 0)
theorem zeros_flat (n : Nat) : (Builtin.zeroCells #[Value.int .i64 0, .slice none 0 0] n).toList = flatC (List.replicate n zCell) := by
  refine List.ext_getElem? fun i => ?_
  by_cases hi : i < n * 2
  · have h1 : (Builtin.zeroCells #[Value.int .i64 0, .slice none 0 0] n).toList[i]? = some ((#[Value.int .i64 0, .slice none 0 0] : Array Value)[i % 2]!) := by
      simp [Builtin.zeroCells, hi]
    rw [h1]
    have hk : i / 2 < n := by omega
    obtain ⟨g1, g2⟩ := flatC_get (l := List.replicate n zCell) (k := i / 2) (r := zCell) (by rw [List.getElem?_replicate, if_pos hk])
    rcases Nat.mod_two_eq_zero_or_one i with e | e
    · rw [e, show i = i / 2 * 2 from by omega, g1]
      rfl
    · rw [e, show i = i / 2 * 2 + 1 from by omega, g2]
      rfl
  · rw [List.getElem?_eq_none (by simp [Builtin.zeroCells]; omega), List.getElem?_eq_none (by rw [flatC_len]; simp; omega)]

section
variable {P : Program} (w : World)
theorem run_copy_rowk (dT sT ty elem : TypeId) (g o dLen dCap : Nat) (a : Addr) (sLen sCap : Nat) (cur : Array Value) (t : TypeId) (cs : List Value) (n k : Nat)
    (hu : P.underlying dT = some (.slice elem)) (hs : (P.info? elem).map (·.size) = some k)
    (hg : w.heap[g]? = some (.cells cur t (0, 0))) (hn : n = Nat.min sLen dLen) (hl : cs.length = n * k)
    (hsrc : ∀ j v, cs[j]? = some v → w.cell? (a.add j) = some v) (hfit : o + cs.length ≤ cur.size) (h1 : ∀ v ∈ cs, v.oneCell' = true) :
    (Builtin.copy_ #[dT, sT] ty #[.slice (some ⟨g, o, none⟩) dLen dCap, .slice (some a) sLen sCap]).run P w =
      .ok (goInt n) (w.setRow g (cur.toList.take o ++ cs ++ cur.toList.drop (o + cs.length)).toArray) := by
  have hld := run_loadCells_list (P := P) w a cs hsrc
  have hst := run_storeCells_at P g o t cs 0 cur w hg (by simpa using hfit) h1
  rw [hl] at hld
  cases hq : P.info? elem with
  | none => simp [hq] at hs
  | some i =>
    have hi : i.size = k := by simpa [hq] using hs
    simp [Builtin.copy_, run_underlying hu, Builtin.lenOf, Builtin.firstCells, sizeOf, typeInfo, hq, hi, ← hn, hld, hst]
theorem run_clear_rowk (t e ty : TypeId) (z : Value) (ht : P.underlying t = some (.slice e)) (hv : ∀ w, (zeroValue e).run P w = .ok z w) (g o n c : Nat) (hn : 0 < n) (cur : Array Value) (t' : TypeId)
    (hg : w.heap[g]? = some (.cells cur t' (0, 0))) (zs : List Value) (hz : (Builtin.zeroCells z.cells n).toList = zs) (hfit : o + zs.length ≤ cur.size) (h1 : ∀ v ∈ zs, v.oneCell' = true) :
    (Builtin.clear_ #[t] ty #[.slice (some ⟨g, o, none⟩) n c]).run P w = .ok (.tuple #[]) (w.setRow g (cur.toList.take o ++ zs ++ cur.toList.drop (o + zs.length)).toArray) := by
  have hst := run_storeCells_at P g o t' zs 0 cur w hg (by simpa using hfit) h1
  simp only [Nat.add_zero] at hst
  obtain ⟨m, rfl⟩ : ∃ m, n = m + 1 := ⟨n - 1, by omega⟩
  simp [Builtin.clear_, run_underlying ht, hv, hz, hst]
theorem run_append_rowk (t ty e : TypeId) (i : TypeInfo) (k : Nat) (ht : P.underlying t = some (.slice e)) (hi : P.info? e = some i) (hk : i.size = k)
    (g o n cap : Nat) (ad : Addr) (m c : Nat) (news : List Value) (hl : news.length = m * k) (hc : ∀ j u, news[j]? = some u → w.cell? (ad.add j) = some u) (h1 : ∀ u ∈ news, u.oneCell' = true) (hroom : n + m ≤ cap)
    (cur : Array Value) (t' : TypeId) (hg : w.heap[g]? = some (.cells cur t' (0, 0))) (hfit : o + n * k + news.length ≤ cur.size) :
    (Builtin.append_ #[t, t] ty #[.slice (some ⟨g, o, none⟩) n cap, .slice (some ad) m c]).run P w =
      .ok (.slice (some ⟨g, o, none⟩) (n + m) cap) (w.setRow g (cur.toList.take (o + n * k) ++ news ++ cur.toList.drop (o + n * k + news.length)).toArray) := by
  have hld := run_loadCells_list (P := P) w ad news hc
  rw [hl] at hld
  have hst := run_storeCells_at P g (o + n * k) t' news 0 cur w hg (by simpa using hfit) h1
  have hadd : (⟨g, o, none⟩ : Addr).add (n * k) = ⟨g, o + n * k, none⟩ := by
    unfold Addr.add
    split <;> simp_all
  simp only [Nat.add_zero] at hst
  simp [Builtin.append_, run_underlying ht, sizeOf, typeInfo, hi, hk, Builtin.lenOf, Builtin.firstCells, hroom, hld, hadd, hst]

theorem wp_clear_run {o : Oper} {a : Act} {K : Act → World → Prop} {Q : Exit → Act → World → Prop} (s : Operand) (t : TypeId)
    (ho : o.op = .call { callee := .builtin .clear, args := #[s], argTypes := #[t] }) (v : Value) (hs : a.eval s = v) (w' : World)
    (hr : (Builtin.clear_ #[t] o.type #[v]).run P w = .ok (.tuple #[]) w') (h : K (a.put o.dst (.tuple #[])) w') : o.wp P a w K Q := by
  unfold Oper.wp execOp
  simp only [ho, resolve, invoke, builtin, Sem.run_bind, Sem.run_pure, Result.andThen_ok, List.map_toArray, List.map_cons, List.map_nil, hs, hr]
  exact h
theorem wpList_clear_run {ops : Array Oper} {rest : List Oper} {o : Oper} {a : Act} {Q : Exit → Act → World → Prop} (hgd : o.guard = none) (s : Operand) (t : TypeId)
    (ho : o.op = .call { callee := .builtin .clear, args := #[s], argTypes := #[t] }) (v : Value) (hs : a.eval s = v) (w' : World)
    (hr : (Builtin.clear_ #[t] o.type #[v]).run P w = .ok (.tuple #[]) w') (h : wpList P ops Q rest (a.put o.dst (.tuple #[])) w') : wpList P ops Q (o :: rest) a w :=
  wpList_plain hgd fun _ hK => wp_clear_run w s t ho v hs w' hr (hK _ _ h)
theorem wp_copy_run2 {o : Oper} {a : Act} {K : Act → World → Prop} {Q : Exit → Act → World → Prop} (d s : Operand) (t t' : TypeId)
    (ho : o.op = .call { callee := .builtin .copy, args := #[d, s], argTypes := #[t, t'] }) (v u : Value) (hd : a.eval d = v) (hs : a.eval s = u) {v' : Value} {w' : World}
    (hr : (Builtin.copy_ #[t, t'] o.type #[v, u]).run P w = .ok v' w') (h : K (a.put o.dst v') w') : o.wp P a w K Q := by
  unfold Oper.wp execOp
  simp only [ho, resolve, invoke, builtin, Sem.run_bind, Sem.run_pure, Result.andThen_ok, List.map_toArray, List.map_cons, List.map_nil, hd, hs, hr]
  exact h
theorem wpList_copy_run2 {ops : Array Oper} {rest : List Oper} {o : Oper} {a : Act} {Q : Exit → Act → World → Prop} (hgd : o.guard = none) (d s : Operand) (t t' : TypeId)
    (ho : o.op = .call { callee := .builtin .copy, args := #[d, s], argTypes := #[t, t'] }) (v u : Value) (hd : a.eval d = v) (hs : a.eval s = u) {v' : Value} {w' : World}
    (hr : (Builtin.copy_ #[t, t'] o.type #[v, u]).run P w = .ok v' w') (h : wpList P ops Q rest (a.put o.dst v') w') : wpList P ops Q (o :: rest) a w :=
  wpList_plain hgd fun _ hK => wp_copy_run2 w d s t t' ho v u hd hs hr (hK _ _ h)
end
/-- a slice of cells of the call's own, by its block -/
theorem own_block {w : World} {B : Nat} {e : TypeId} {s n c g : Nat} {xs : List Value} (h : w.ownsRow B e s (.slice (some ⟨g, 0, none⟩) n c) n xs) : ∃ cur, w.heap[g]? = some (.cells cur e (0, 0)) ∧ n ≤ c ∧ c ≤ maxLen ∧ cur.size = c * s ∧ cur.toList.take (n * s) = xs ∧ B ≤ g := by
  rcases h.2 with ⟨h1, _⟩ | ⟨g', cap, cur, h1, h2, h3, h4, h5, h6, h7⟩
  · cases h1
  · injection h1 with h1 _ h8
    injection h1 with h1
    injection h1 with h1
    subst h1 h8
    exact ⟨cur, h3, h4, h5, h6, h7, h2⟩
theorem block_own {w : World} {B : Nat} {e : TypeId} {s n c g : Nat} {xs : List Value} {cur : Array Value} (hg : w.heap[g]? = some (.cells cur e (0, 0))) (h1 : n ≤ c) (h2 : c ≤ maxLen) (h3 : cur.size = c * s) (h4 : cur.toList.take (n * s) = xs) (hB : B ≤ g) : w.ownsRow B e s (.slice (some ⟨g, 0, none⟩) n c) n xs := by
  refine ⟨?_, .inr ⟨g, c, cur, rfl, hB, hg, h1, h2, h3, h4⟩⟩
  rw [← h4, List.length_take, Array.length_toList, h3]
  exact Nat.min_eq_left (Nat.mul_le_mul_right s h1)
end Go.Proofs.YtjicdcmdgbcdcaaGreatDoor.Scr
end
section
namespace Go.Proofs.YtjicdcmdgbcdcaaGreatDoor.Scr
set_option linter.unusedSimpArgs false
set_option linter.unusedVariables false
open Go Go.RowKit Mem Turn Ring

set_option maxRecDepth 100000 in
set_option maxHeartbeats 16000000 in
theorem delete_any (B g cap i j N : Nat) (rs : List (Int × Value)) (w : World) (h : w.ownsRow B 80 2 (.slice (some ⟨g, 0, none⟩) N cap) N (flatC rs)) (hN : N = rs.length) (h1 : ∀ r ∈ rs, r.2.oneCell' = true) (hij : i < j) (hj : j ≤ N)  :
    Calls Tryz.prog 200 #[.slice (some ⟨g, 0, none⟩) N cap, .int .i64 (i : Int), .int .i64 (j : Int)] w fun e w' =>
      e = .returned (.slice (some ⟨g, 0, none⟩) (i + (N - j)) cap) ∧ w'.ownsRow B 80 2 (.slice (some ⟨g, 0, none⟩) (i + (N - j)) cap) (i + (N - j)) (flatC (rs.take i ++ rs.drop j)) ∧ Turn (fun b => b = g) w w' := by
  have hmx : Tryz.prog.follows .mixedOrders = true := by kernel_rfl
  obtain ⟨i0, hi, hz0, hz1, hz2⟩ := info_parts info_cell
  obtain ⟨cur, hg, hnc, hcm, hcs, hct, hB⟩ := own_block h
  have hcap : cap ≤ 9223372036854775807 := by unfold maxLen at hcm; omega
  -- what is moved
  obtain ⟨news, hnews⟩ : ∃ news, news = flatC (rs.drop j) := ⟨_, rfl⟩
  have hnl : news.length = (N - j) * 2 := by rw [hnews, flatC_len, List.length_drop, ← hN]
  have hget : ∀ t u, news[t]? = some u → w.cell? ⟨g, j * 2 + t, none⟩ = some u := by
    intro t u hu
    rw [hnews, flatC_drop, List.getElem?_drop, ← hct] at hu
    have hlt : j * 2 + t < N * 2 := by
      rw [List.getElem?_take] at hu
      split at hu
      · assumption
      · cases hu
    rw [List.getElem?_take, if_pos hlt] at hu
    simp only [World.cell?, hg]
    simpa using hu
  have hone : ∀ u ∈ news, u.oneCell' = true := by
    rw [hnews]
    exact flatC_one _ (fun r hr => h1 r (List.mem_of_mem_drop hr))
  obtain ⟨C1, hC1⟩ : ∃ C1 : Array Value, C1 = (cur.toList.take (0 + i * 2) ++ news ++ cur.toList.drop (0 + i * 2 + news.length)).toArray := ⟨_, rfl⟩
  have hC1s : C1.size = cap * 2 := by
    rw [hC1]
    simp only [List.size_toArray, List.length_append, List.length_take, List.length_drop, Array.length_toList, hcs, hnl]
    omega
  obtain ⟨A', hA'⟩ : ∃ A', A' = (if cap = j then some (⟨g, 0, none⟩ : Addr) else (some (⟨g, 0, none⟩ : Addr)).map (·.add (j * 2))) := ⟨_, rfl⟩
  obtain ⟨ad, had, hsrc⟩ : ∃ ad, A' = some ad ∧ ∀ t u, news[t]? = some u → w.drew.cell? (ad.add t) = some u := by
    rw [hA']
    by_cases hc : cap = j
    · refine ⟨⟨g, 0, none⟩, by rw [if_pos hc], fun t u hu => ?_⟩
      have := (List.getElem?_eq_some_iff.1 hu).1
      omega
    · refine ⟨⟨g, j * 2, none⟩, by rw [if_neg hc]; simp [Gra.add_none], fun t u hu => ?_⟩
      rw [Gra.add_none]
      exact hget t u hu
  have hap : ∀ ty, (Builtin.append_ #[43, 43] ty #[.slice (some ⟨g, 0, none⟩) i cap, .slice (some ad) (N - j) (cap - j)]).run Tryz.prog w.drew = .ok (.slice (some ⟨g, 0, none⟩) (i + (N - j)) cap) (w.drew.setRow g C1) := fun ty => by
    rw [hC1]
    exact run_append_rowk w.drew _ ty 80 i0 2 Tryz.underlying43 hi hz1 g 0 i cap ad (N - j) (cap - j) news hnl hsrc hone (by omega) cur _ (show w.drew.heap[g]? = _ from hg) (by rw [hcs, hnl]; omega)
  have hg2 : (w.drew.setRow g C1).heap[g]? = some (.cells C1 80 (0, 0)) := setRow_heap w.drew g _ C1 _ _ hg
  -- what is cleared
  have hzl : (flatC (List.replicate (j - i) zCell)).length = (j - i) * 2 := by rw [flatC_len, List.length_replicate]
  obtain ⟨C2, hC2⟩ : ∃ C2 : Array Value, C2 = (C1.toList.take ((i + (N - j)) * 2) ++ flatC (List.replicate (j - i) zCell) ++ C1.toList.drop ((i + (N - j)) * 2 + (flatC (List.replicate (j - i) zCell)).length)).toArray := ⟨_, rfl⟩
  have hcl : ∀ ty, (Builtin.clear_ #[43] ty #[.slice (some ⟨g, (i + (N - j)) * 2, none⟩) (N - (i + (N - j))) (cap - (i + (N - j)))]).run Tryz.prog (w.drew.setRow g C1) = .ok (.tuple #[]) ((w.drew.setRow g C1).setRow g C2) := fun ty => by
    rw [hC2]
    exact run_clear_rowk (w.drew.setRow g C1) _ 80 ty (.agg #[.int .i64 0, .slice none 0 0]) Tryz.underlying43 Tryz.zeroValue80 g _ _ _ (by omega) C1 _ hg2 _ (by rw [show N - (i + (N - j)) = j - i from by omega]; exact zeros_flat (j - i)) (by rw [hC1s, hzl]; omega) (flatC_one _ (fun r hr => by rw [List.eq_of_mem_replicate hr]; rfl))
  have HF : Hid (((w.drew.setRow g C1).setRow g C2).ownsRow B 80 2 (.slice (some ⟨g, 0, none⟩) (i + (N - j)) cap) (i + (N - j)) (flatC (rs.take i ++ rs.drop j)) ∧ Turn (fun b => b = g) w ((w.drew.setRow g C1).setRow g C2)) := Lib.hid (by
    refine ⟨block_own (setRow_heap _ g _ C2 _ _ hg2) (by omega) hcm ?_ ?_ hB, (Turn.drew _ _).trans ((turn_setRow _ _ _).trans (turn_setRow _ _ _))⟩
    · rw [hC2]
      simp only [List.size_toArray, List.length_append, List.length_take, List.length_drop, Array.length_toList, hC1s, hzl]
      omega
    · rw [hC2]
      simp only
      rw [List.append_assoc, List.take_append_of_le_length (by simp only [List.length_take, Array.length_toList, hC1s]; omega), List.take_take, Nat.min_self, hC1]
      simp only
      rw [Nat.zero_add, List.take_append_of_le_length (by simp only [List.length_append, List.length_take, Array.length_toList, hcs, hnl]; omega), List.take_of_length_le (by simp only [List.length_append, List.length_take, Array.length_toList, hcs, hnl]; omega)]
      rw [flatC_app, hnews, flatC_take, ← hct, List.take_take, Nat.min_eq_left (by omega)])
  have HAP := Lib.hid hap
  have HCL := Lib.hid hcl
  have hij' : (i : Int) ≤ (j : Int) := by omega
  have hj' : (j : Int) ≤ (N : Int) := by omega
  have hN' : (N : Int) ≤ (cap : Int) := by omega
  have hic : i ≤ cap := by omega
  have hjc : j ≤ cap := by omega
  have hne : ¬ ((i : Int) = (j : Int)) := by omega
  have hlo : ¬ (cap = i + (N - j)) := by omega
  have HA := Lib.hid (hA'.symm.trans had)
  replace hN := Lib.hid hN
  clear h h1 hg hcs hct hnews hnl hget hone hC1 hC1s hA' had hsrc hap hg2 hzl hC2 hcl hcm
  have hkN : i + (N - j) ≤ N := by omega
  have hkc : i + (N - j) ≤ cap := by omega
  generalize i + (N - j) = k at *
  have hkN' : (k : Int) ≤ (N : Int) := by omega
  go_enter Tryz.func200, Tryz.ntmps200
  go_upto_region 5 with fail
  refine region_begin3 (fun _ => True) (fun _ => false) 8 rfl hmx (by intro _ _ d _ _ h; cases d <;> exact h) fun hQP => ?_
  have hS := True.intro
  refine take_f 0 20 rfl rfl (by kernel_rfl) (by kernel_rfl) (by kernel_rfl) (by kernel_rfl) hQP hS (.inl ⟨by kernel_rfl, fun w' hw' => by go_simp; try with_reducible rfl⟩) ?_
  refine take_f 1 21 rfl rfl (by kernel_rfl) (by kernel_rfl) (by kernel_rfl) (by kernel_rfl) hQP hS (.inl ⟨by kernel_rfl, fun w' hw' => by go_simp; try with_reducible rfl⟩) ?_
  refine take_f 2 22 rfl rfl (by kernel_rfl) (by kernel_rfl) (by kernel_rfl) (by kernel_rfl) hQP hS (.inl ⟨by kernel_rfl, fun w' hw' => by go_simp; try with_reducible rfl⟩) ?_
  refine take_f 3 23 rfl rfl (by kernel_rfl) (by kernel_rfl) (by kernel_rfl) (by kernel_rfl) hQP hS (.inl ⟨by kernel_rfl, fun w' hw' => by go_simp; try with_reducible rfl⟩) ?_
  refine take_f 4 24 rfl rfl (by kernel_rfl) (by kernel_rfl) (by kernel_rfl) (by kernel_rfl) hQP hS (.inl ⟨by kernel_rfl, fun w' hw' => by go_simp; try with_reducible rfl⟩) ?_
  refine take_f 5 25 rfl rfl (by kernel_rfl) (by kernel_rfl) (by kernel_rfl) (by kernel_rfl) hQP trivial (yields_slice_l 43 80 (.tmp 23) (.tmp 24) rfl (by kernel_rfl) (some ⟨g, 0, none⟩) N cap j 2 (j : Int) (by kernel_rfl) (by kernel_rfl) rfl hj Tryz.underlying43 i0 hi hz1 (some ad) HA.out.symm) ?_
  refine take_one (i := 6) (by kernel_rfl) rfl rfl fun KQ hK => ?_
  refine Lib.wp_append_run _ (.tmp 22) (.tmp 25) 43 43 rfl (.slice (some ⟨g, 0, none⟩) i cap) (.slice (some ad) (N - j) (cap - j)) (by kernel_rfl) (by kernel_rfl) _ _ (HAP.out _) ?_
  refine hK _ _ (.inr trivial) ?_
  clear hK
  try simp only [List.setIfInBounds_toArray, List.set_cons_succ, List.set_cons_zero]
  refine take_f 7 0 rfl rfl (by kernel_rfl) (by kernel_rfl) (by kernel_rfl) (by kernel_rfl) hQP hS (.inl ⟨by kernel_rfl, fun w' hw' => by go_simp; try with_reducible rfl⟩) ?_
  refine take_done (by kernel_rfl) ?_ _
  go_wp2_with (refine wpList_clear_run _ rfl (.tmp 31) 43 rfl _ rfl _ (HCL.out _) ?_)
  go_ret
  exact ⟨rfl, HF.out⟩
end Go.Proofs.YtjicdcmdgbcdcaaGreatDoor.Scr
end
