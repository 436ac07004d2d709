/-
  strings.Cut, Index, IndexByte at a separator of one byte.
  strings.Trim at a set of ASCII bytes: is nothing left?
  strings.Count, Split at a separator of one byte.
-/
import Derived.Test.YtjicdcmdgbcdcaaGreatDoorCd11
import Derived.Laws.StandIn
import Derived.Lib.Bytealg
section
namespace Go.Proofs.YtjicdcmdgbcdcaaGreatDoor.Scr
set_option linter.unusedSimpArgs false
set_option linter.unusedVariables false
open Go Go.RowKit Mem Turn Ring

theorem callIdx (s : ByteArray) (c : Int) (w : World) : (callFunc 249 #[.string s, .int .u8 c]).run Tryz.prog w = .ok (.value (.int .i64 (Lib.indexByte s.data.toList c.toNat.toUInt8))) w := by
  rw [run_callFunc_extern Tryz.func249 (by kernel_rfl) (by kernel_rfl) (by kernel_rfl) (e := Extern.BytealgIndexByte.indexByte) (by kernel_rfl), Lib.run_indexByteString]
  rfl
set_option maxRecDepth 100000 in
set_option maxHeartbeats 8000000 in
theorem slIdxByte (s : ByteArray) (c : Int) (w : World) : Calls Tryz.prog 202 #[.string s, .int .u8 c] w fun e w' => e = .returned (.int .i64 (Lib.indexByte s.data.toList c.toNat.toUInt8)) ∧ w = w' := by
  have HC := Lib.hid (callIdx s c w)
  generalize Lib.indexByte s.data.toList c.toNat.toUInt8 = i at *
  go_enter Tryz.func202, Tryz.ntmps202
  go_wp2_with (simp only [HC.out])
  go_ret
  exact ⟨rfl, rfl⟩
set_option maxRecDepth 100000 in
set_option maxHeartbeats 8000000 in
theorem sIdxByte (s : ByteArray) (c : Int) (w : World) : Calls Tryz.prog 251 #[.string s, .int .u8 c] w fun e w' => e = .returned (.int .i64 (Lib.indexByte s.data.toList c.toNat.toUInt8)) ∧ w = w' := by
  have HC := Lib.hid (slIdxByte s c w)
  generalize Lib.indexByte s.data.toList c.toNat.toUInt8 = i at *
  go_enter Tryz.func251, Tryz.ntmps251
  go_wp2_with fail
  refine HC.out.mono ?_
  rintro e w1 ⟨rfl, rfl⟩
  go_wp2_with fail
  go_ret
  exact ⟨rfl, rfl⟩
set_option maxRecDepth 100000 in
set_option maxHeartbeats 8000000 in
theorem slIndex1 (s : ByteArray) (c : UInt8) (w : World) (hne : ([c] == s.toList) = false) : Calls Tryz.prog 134 #[.string s, .string ⟨#[c]⟩] w fun e w' => e = .returned (.int .i64 (Lib.indexByte s.data.toList c)) ∧ w = w' := by
  have hc : Lib.indexByte s.data.toList (c.toNat : Int).toNat.toUInt8 = Lib.indexByte s.data.toList c := by simp
  have HC := Lib.hid (slIdxByte s (c.toNat : Int) w)
  rw [hc] at HC
  generalize Lib.indexByte s.data.toList c = i at *
  clear hc
  go_enter Tryz.func134, Tryz.ntmps134
  go_wp2_with fail
  refine HC.out.mono ?_
  rintro e w1 ⟨rfl, rfl⟩
  go_wp2_with fail
  go_ret
  exact ⟨rfl, rfl⟩
set_option maxRecDepth 100000 in
set_option maxHeartbeats 8000000 in
theorem sIndex1 (s : ByteArray) (c : UInt8) (w : World) (hne : ([c] == s.toList) = false) : Calls Tryz.prog 210 #[.string s, .string ⟨#[c]⟩] w fun e w' => e = .returned (.int .i64 (Lib.indexByte s.data.toList c)) ∧ w = w' := by
  have HC := Lib.hid (slIndex1 s c w hne)
  generalize Lib.indexByte s.data.toList c = i at *
  clear hne
  go_enter Tryz.func210, Tryz.ntmps210
  go_wp2_with fail
  refine HC.out.mono ?_
  rintro e w1 ⟨rfl, rfl⟩
  go_wp2_with fail
  go_ret
  exact ⟨rfl, rfl⟩
set_option maxRecDepth 100000 in
set_option maxHeartbeats 8000000 in
/-- Cut where the separator is found -/
theorem slCut1 (s a b : ByteArray) (c : UInt8) (i : Nat) (w : World) (hne : ([c] == s.toList) = false) (hi : Lib.indexByte s.data.toList c = (i : Int)) (hs : i + 1 ≤ s.size) (hb : s.size ≤ 100000) (ha : s.extract 0 i = a) (hbb : s.extract (i + 1) s.size = b) :
    Calls Tryz.prog 83 #[.string s, .string ⟨#[c]⟩] w fun e w' => e = .returned (.tuple #[.string a, .string b, .bool true]) ∧ Below w.heap.size w w' := by
  have hmx : Tryz.prog.follows .mixedOrders = true := by kernel_rfl
  have HC := Lib.hid (slIndex1 s c w hne)
  rw [hi] at HC
  obtain ⟨j, hj⟩ : ∃ j, j = i + 1 := ⟨_, rfl⟩
  have hw : IntKind.i64.wrap ((i : Int) + 1) = (j : Int) := by rw [IntKind.wrap_i64]; omega
  have hjs : j ≤ s.size := by omega
  have hjs' : (j : Int) ≤ (s.size : Int) := by omega
  rw [← hj] at hbb
  replace hj := Lib.hid hj
  have h1 : (i : Int) ≤ (s.size : Int) := by omega
  clear hne hi
  go_enter Tryz.func83, Tryz.ntmps83
  go_wp2_with fail
  refine HC.out.mono ?_
  rintro e w1 ⟨rfl, rfl⟩
  go_wp2_with fail
  refine region_begin3 (fun _ => True) (fun _ => false) 12 rfl hmx (by intro _ _ d _ _ h; cases d <;> exact h) fun hQP => ?_
  have hS := True.intro
  refine take_f 0 13 rfl rfl (by kernel_rfl) (by kernel_rfl) (by kernel_rfl) (by kernel_rfl) hQP hS (.inl ⟨by kernel_rfl, fun w' hw' => by go_simp; try with_reducible rfl⟩) ?_
  refine take_f 1 14 rfl rfl (by kernel_rfl) (by kernel_rfl) (by kernel_rfl) (by kernel_rfl) hQP hS (.inl ⟨by kernel_rfl, fun w' hw' => by go_simp; try with_reducible rfl⟩) ?_
  refine take_f 2 15 rfl rfl (by kernel_rfl) (by kernel_rfl) (by kernel_rfl) (by kernel_rfl) hQP hS (.inl ⟨by kernel_rfl, fun w' hw' => by go_simp; try with_reducible rfl⟩) ?_
  refine take_f 3 16 rfl rfl (by kernel_rfl) (by kernel_rfl) (by kernel_rfl) (by kernel_rfl) hQP hS (.inl ⟨by kernel_rfl, fun w' hw' => by go_simp; try with_reducible rfl⟩) ?_
  refine take_f 4 17 rfl rfl (by kernel_rfl) (by kernel_rfl) (by kernel_rfl) (by kernel_rfl) hQP hS (.inl ⟨by kernel_rfl, fun w' hw' => by go_simp; try with_reducible rfl⟩) ?_
  refine take_f 5 18 rfl rfl (by kernel_rfl) (by kernel_rfl) (by kernel_rfl) (by kernel_rfl) hQP hS (.inl ⟨by kernel_rfl, fun w' hw' => by go_simp; try with_reducible rfl⟩) ?_
  refine take_f 6 19 rfl rfl (by kernel_rfl) (by kernel_rfl) (by kernel_rfl) (by kernel_rfl) hQP hS (.inl ⟨by kernel_rfl, fun w' hw' => by go_simp; try with_reducible rfl⟩) ?_
  refine take_f 7 20 rfl rfl (by kernel_rfl) (by kernel_rfl) (by kernel_rfl) (by kernel_rfl) hQP hS (.inl ⟨by kernel_rfl, fun w' hw' => by go_simp; try with_reducible rfl⟩) ?_
  refine take_f 8 21 rfl rfl (by kernel_rfl) (by kernel_rfl) (by kernel_rfl) (by kernel_rfl) hQP hS (.inl ⟨by kernel_rfl, fun w' hw' => by go_simp; try with_reducible rfl⟩) ?_
  refine take_f 9 4 rfl rfl (by kernel_rfl) (by kernel_rfl) (by kernel_rfl) (by kernel_rfl) hQP hS (.inl ⟨by kernel_rfl, fun w' hw' => by go_simp; try with_reducible rfl⟩) ?_
  refine take_f 10 5 rfl rfl (by kernel_rfl) (by kernel_rfl) (by kernel_rfl) (by kernel_rfl) hQP hS (.inl ⟨by kernel_rfl, fun w' hw' => by go_simp; try with_reducible rfl⟩) ?_
  refine take_f 11 6 rfl rfl (by kernel_rfl) (by kernel_rfl) (by kernel_rfl) (by kernel_rfl) hQP hS (.inl ⟨by kernel_rfl, fun w' hw' => by go_simp; try with_reducible rfl⟩) ?_
  refine take_done (by kernel_rfl) ?_ _
  try simp only [List.setIfInBounds_toArray, List.set_cons_succ, List.set_cons_zero]
  go_wp2_with fail
  go_ret3
  exact ⟨rfl, (Below.refl _ _).drew⟩
set_option maxRecDepth 100000 in
set_option maxHeartbeats 8000000 in
theorem sCut1 (s a b : ByteArray) (c : UInt8) (i : Nat) (w : World) (hne : ([c] == s.toList) = false) (hi : Lib.indexByte s.data.toList c = (i : Int)) (hs : i + 1 ≤ s.size) (hb : s.size ≤ 100000) (ha : s.extract 0 i = a) (hbb : s.extract (i + 1) s.size = b) :
    Calls Tryz.prog 43 #[.string s, .string ⟨#[c]⟩] w fun e w' => e = .returned (.tuple #[.string a, .string b, .bool true]) ∧ Below w.heap.size w w' := by
  have HC := Lib.hid (slCut1 s a b c i w hne hi hs hb ha hbb)
  clear hne hi hs hb ha hbb
  go_enter Tryz.func43, Tryz.ntmps43
  go_wp2_with fail
  refine HC.out.mono ?_
  rintro e w1 ⟨rfl, hb1⟩
  have HB := Lib.hid hb1
  clear hb1
  go_wp2_with fail
  go_ret3
  exact ⟨rfl, HB.out⟩
end Go.Proofs.YtjicdcmdgbcdcaaGreatDoor.Scr
end
section
namespace Go.Proofs.YtjicdcmdgbcdcaaGreatDoor.Scr
set_option linter.unusedSimpArgs false
set_option linter.unusedVariables false
open Go Go.RowKit Mem Turn Ring

/-- the set's cells -/
def setL (cs : List UInt8) : List Value := (List.range 256).map fun j => Value.bool (cs.any fun c => c.toNat == j)
theorem setL_len (cs : List UInt8) : (setL cs).length = 256 := by simp [setL]
theorem setL_get (cs : List UInt8) (c : UInt8) : (setL cs)[c.toNat]? = some (.bool (cs.contains c)) := by
  have h : c.toNat < 256 := c.toNat_lt
  unfold setL
  rw [List.getElem?_map, List.getElem?_range h]
  simp only [Option.map_some, Option.some.injEq, Value.bool.injEq]
  rw [Bool.eq_iff_iff]
  simp only [List.any_eq_true, beq_iff_eq, List.contains_iff_mem]
  constructor
  · rintro ⟨x, hx, e⟩
    have : x = c := UInt8.toNat_inj.1 e
    exact this ▸ hx
  · exact fun hx => ⟨c, hx, rfl⟩
theorem setL_add (cs : List UInt8) (c : UInt8) : (setL cs).set c.toNat (.bool true) = setL (cs ++ [c]) := by
  apply List.ext_getElem?
  intro j
  rw [List.getElem?_set]
  by_cases hj : j < 256
  · have e : ∀ ds : List UInt8, (setL ds)[j]? = some (.bool (ds.any fun c => c.toNat == j)) := fun ds => by
      unfold setL
      rw [List.getElem?_map, List.getElem?_range hj]
      rfl
    rw [e, e]
    by_cases h : c.toNat = j
    · rw [if_pos h, setL_len, if_pos (by omega)]
      simp [h]
    · rw [if_neg h]
      simp [h]
  · have hj' : 256 ≤ j := by omega
    rw [List.getElem?_eq_none (by rw [setL_len]; exact hj'), List.getElem?_eq_none (by rw [setL_len]; exact hj')]
    split
    · rw [setL_len, if_neg (by omega)]
    · rfl
theorem setL_nil : setL [] = List.replicate 256 (.bool false) := by
  apply List.ext_getElem?
  intro j
  by_cases hj : j < 256
  · unfold setL
    rw [List.getElem?_map, List.getElem?_range hj, List.getElem?_replicate, if_pos hj]
    rfl
  · rw [List.getElem?_eq_none (by rw [setL_len]; omega), List.getElem?_eq_none (by rw [List.length_replicate]; omega)]
def SetAt (w : World) (b : Nat) (cs : List UInt8) : Prop := w.heap[b]? = some (.cells (setL cs).toArray 317 (0, 0))
theorem SetAt.cell {w : World} {b : Nat} {cs : List UInt8} (h : SetAt w b cs) (c : UInt8) : w.cell? ⟨b, c.toNat, none⟩ = some (.bool (cs.contains c)) := by
  unfold SetAt at h
  simp only [World.cell?, h]
  rw [List.getElem?_toArray, setL_get]
  rfl
theorem SetAt.turn {w w' : World} {T : Nat → Prop} {b : Nat} {cs : List UInt8} (h : SetAt w b cs) (ht : Turn T w w') (hn : ¬ T b) : SetAt w' b cs := ht.heap h hn

set_option maxRecDepth 100000 in
set_option maxHeartbeats 8000000 in
theorem setHas_any (b : Nat) (cs : List UInt8) (c : UInt8) (w : World) (h : SetAt w b cs) : Calls Tryz.prog 299 #[.pointer (some ⟨b, 0, none⟩), .int .u8 (c.toNat : Int)] w fun e w' => e = .returned (.bool (cs.contains c)) ∧ w = w' := by
  have q := h.cell c
  obtain ⟨n, hn⟩ : ∃ n, c.toNat = n := ⟨_, rfl⟩
  have hlt : (n : Int) < 256 := by have := c.toNat_lt; omega
  rw [hn] at q ⊢
  generalize cs.contains c = r at *
  clear h hn
  go_enter Tryz.func299, Tryz.ntmps299
  go_wp2_with fail
  go_ret
  exact ⟨rfl, rfl⟩

theorem info_set : (Tryz.prog.info? 317).map (fun i => (i.zero, i.size)) = some (some (.agg (Array.replicate 256 (.bool false))), 256) := by kernel_rfl
theorem zero_set (w : World) : (zeroValue 317).run Tryz.prog w = .ok (.agg (setL []).toArray) w := by
  have h := (zero_of_info info_set).1 w
  rw [h, setL_nil, List.toArray_replicate]
theorem size_set (cs : List UInt8) : (Tryz.prog.info? 317).map (·.size) = some (setL cs).toArray.size := by
  rw [List.size_toArray, setL_len]
  kernel_rfl
theorem one_set (cs : List UInt8) : ((setL cs).toArray).all (·.oneCell') = true := by
  rw [Array.all_eq_true_iff_forall_mem]
  intro x hx
  simp only [List.mem_toArray, setL, List.mem_map] at hx
  obtain ⟨j, _, rfl⟩ := hx
  rfl

theorem res_cell_tmp {P : Program} {fn : Func} {p q : Tmp} {ty : TypeId} (h : fn.results = #[.cell p ty, .tmp q]) (tmps : Array Value) (w : World) (g : Nat) (t : TypeId) (cs : Array Value) (fr : Nat × Nat) (d : TypeDesc)
    (hp : tmps.getD p undef = .pointer (some ⟨g, 0, none⟩)) (hg : w.heap[g]? = some (.cells cs t fr))
    (hu : P.underlying ty = some d) (hd : (match d with | .struct _ | .array _ _ => true | _ => false) = true) (hi : (P.info? ty).map (·.size) = some cs.size) :
    (results fn tmps).run P w = .ok (.tuple #[.agg cs, tmps.getD q undef]) w := by
  have hp' : tmps[p]?.getD undef = .pointer (some ⟨g, 0, none⟩) := by simpa using hp
  simp [results, h, hp', asAddr, run_loadVar_row w g t ty cs fr d hg hu hd hi]

set_option maxRecDepth 100000 in
set_option maxHeartbeats 8000000 in
theorem mkset_any (s : ByteArray) (w : World) (hs : s.size ≤ 100000) (ha : ∀ c ∈ s.data.toList, c.toNat < 128) :
    Calls Tryz.prog 258 #[.string s] w fun e w' => e = .returned (.tuple #[.agg (setL s.data.toList).toArray, .bool true]) ∧ Below w.heap.size w w' := by
  obtain ⟨z, hz⟩ : ∃ z, z = setL [] := ⟨_, rfl⟩
  have HZ := Lib.hid hz
  have hzz := zero_set w
  rw [← hz] at hzz
  obtain ⟨n, hn⟩ : ∃ n, s.size = n := ⟨_, rfl⟩
  have HN := Lib.hid hn
  have HA := Lib.hid ha
  clear hz ha
  go_enter Tryz.func258, Tryz.ntmps258
  go_wp2_with fail
  have hset : SetAt (w.alloc (.cells z.toArray 317)) w.heap.size (s.data.toList.take 0) := by
    have := heap_alloc_new w (.cells z.toArray 317)
    unfold SetAt
    rw [this, HZ.out]
    rfl
  have HW := Lib.hid (And.intro hset ((Below.refl _ _).alloc (Nat.le_refl _) _ : Below w.heap.size w (w.alloc (.cells z.toArray 317))))
  clear hset
  generalize (w.alloc (.cells z.toArray 317)) = w1 at *
  go_loopg [4, 5] n (fun gg v4 v5 wx => ∃ k : Nat, n - k = gg ∧ k ≤ n ∧ v4 = .int .i64 (k : Int) ∧ Hid (SetAt wx w.heap.size (s.data.toList.take k) ∧ Below w.heap.size w wx))
  case atStart => exact ⟨0, rfl, Nat.zero_le _, rfl, HW⟩
  case round =>
    obtain ⟨k, rfl, hk, rfl, H⟩ := hrel
    by_cases hlt : k < n
    · have hlt' : (k : Int) < (n : Int) := by omega
      have hks : k < s.size := by omega
      have hks' : (k : Int) < (s.size : Int) := by omega
      have hmem : s[k] ∈ s.data.toList := by
        rw [Array.mem_toList_iff]
        exact Array.getElem_mem _
      have hc := HA.out _ hmem
      obtain ⟨c, hcc⟩ : ∃ c, s[k] = c := ⟨_, rfl⟩
      have htk : s.data.toList.take (k + 1) = s.data.toList.take k ++ [c] := by
        rw [List.take_add_one, ← hcc]
        congr 1
        rw [List.getElem?_eq_getElem (by simpa using hks)]
        rfl
      have hc' : (c.toNat : Int) < 128 := by rw [← hcc]; omega
      have hc6 : (c.toNat : Int) < 256 := by omega
      have hdc : (c.toNat : Int) < 128 := hc'
      have hcell : wr.cell? ⟨w.heap.size, c.toNat, none⟩ = some (.bool ((s.data.toList.take k).contains c)) := H.out.1.cell c
      have hfz : wr.frozen? ⟨w.heap.size, c.toNat, none⟩ = false := by
        have := H.out.1
        unfold SetAt at this
        simp [World.frozen?, this]
      have HST : Hid (SetAt (wr.setCell ⟨w.heap.size, c.toNat, none⟩ (.bool true)) w.heap.size (s.data.toList.take (k + 1)) ∧ Below w.heap.size w (wr.setCell ⟨w.heap.size, c.toNat, none⟩ (.bool true))) := Lib.hid (by
        refine ⟨?_, H.out.2.trans ((Turn.setCell (T := fun b => b = w.heap.size) (p := ⟨w.heap.size, c.toNat, none⟩) wr (.bool true) rfl).below H.out.2.size (fun b e => by rw [e]; exact Nat.le_refl _))⟩
        unfold SetAt
        rw [heap_set1 H.out.1 c.toNat (.bool true), setL_add, htk])
      generalize (s.data.toList.take k).contains c = q0 at *
      clear hmem hc htk H
      go_wp2_with fail
      go_roundg (n - (k + 1))
      case measure => omega
      case rel => exact ⟨k + 1, rfl, by omega, by go_num, HST⟩
    · obtain rfl : k = n := by omega
      have hge : ¬ (k : Int) < (k : Int) := by omega
      have hsz : (setL s.data.toList).length = 256 := setL_len _
      have hset : wr.heap[w.heap.size]? = some (.cells (setL s.data.toList).toArray 317 (0, 0)) := by
        have := H.out.1
        rw [List.take_of_length_le (by rw [← HN.out]; simp)] at this
        exact this
      have HB := Lib.hid H.out.2
      have h1 := size_set s.data.toList
      have h2 := one_set s.data.toList
      have HZS := Lib.hid hsz
      have HR := Lib.hid hset
      clear H hsz hset
      obtain ⟨rr, hrr⟩ : ∃ rr, rr = setL s.data.toList := ⟨_, rfl⟩
      rw [← hrr] at HR HZS h1 h2
      replace hrr := Lib.hid hrr
      go_wp2_with (first | (refine wpList_load_row rfl 317 _ rfl w.heap.size rfl _ rr.toArray (0, 0) _ HR.out Tryz.underlying317 rfl h1 ?_) | (refine wpList_store_row rfl 317 _ _ rfl w.heap.size rr.toArray rfl rfl _ _ HR.out h1 rfl h2 ?_))
      have hfin := setRow_heap wr w.heap.size _ rr.toArray 317 (0, 0) HR.out
      have hbf : Below w.heap.size w (wr.setRow w.heap.size rr.toArray) := HB.out.trans ((turn_setRow wr w.heap.size rr.toArray).below HB.out.size (fun j e => by rw [e]; exact Nat.le_refl _))
      refine bodyPost_ret (res_cell_tmp rfl _ _ w.heap.size 317 _ (0, 0) _ rfl hfin Tryz.underlying317 rfl h1) rfl ?_
      exact ⟨by rw [← hrr.out]; rfl, hbf⟩

theorem ext_list (s : ByteArray) (a b : Nat) : (s.extract a b).data.toList = (s.data.toList.take b).drop a := by
  rw [ByteArray.data_extract, Array.toList_extract, List.extract_eq_take_drop, List.drop_take]
theorem empty_of (s : ByteArray) (h : s.size = 0) : s = ⟨#[]⟩ := by
  apply ByteArray.ext
  exact Array.eq_empty_of_size_eq_zero h
def allIn (cs : List UInt8) (s : ByteArray) : Bool := s.data.toList.all cs.contains
set_option maxRecDepth 100000 in
set_option maxHeartbeats 8000000 in
theorem trimR_any (b : Nat) (cs : List UInt8) (s : ByteArray) (w : World) (hs : s.size ≤ 100000) (h : SetAt w b cs) :
    Calls Tryz.prog 260 #[.string s, .pointer (some ⟨b, 0, none⟩)] w fun e w' => w = w' ∧ ∃ t, e = .returned (.string t) ∧ t.size ≤ s.size ∧ ((allIn cs s = true ∧ t = ⟨#[]⟩) ∨ (allIn cs s = false ∧ ∃ c, t.data.toList.getLast? = some c ∧ cs.contains c = false)) := by
  have HC := Lib.hid (fun c => setHas_any b cs c w h)
  obtain ⟨n, hn⟩ : ∃ n, s.size = n := ⟨_, rfl⟩
  have HN := Lib.hid hn
  rw [hn] at hs
  clear h hn
  go_enter Tryz.func260, Tryz.ntmps260
  go_wp2_with fail
  go_loopg [0] n (fun gg v0 wx => ∃ (k : Nat) (sk : ByteArray), k = gg ∧ k ≤ n ∧ v0 = .string sk ∧ sk.size = k ∧ Hid (w = wx ∧ ∃ rest, s.data.toList = sk.data.toList ++ rest ∧ rest.all cs.contains = true))
  case atStart => exact ⟨n, s, rfl, Nat.le_refl _, rfl, HN.out, Lib.hid ⟨rfl, [], by simp, rfl⟩⟩
  case round =>
    obtain ⟨k, sk, rfl, hk, rfl, hsk, H⟩ := hrel
    obtain ⟨rfl, rest, h1, h2⟩ := H.out
    have HR := Lib.hid (And.intro h1 h2)
    by_cases h0 : 0 < k
    · have h0' : (0 : Int) < (k : Int) := by omega
      have hwk : IntKind.i64.wrap ((k : Int) - 1) = ((k - 1 : Nat) : Int) := by rw [IntKind.wrap_i64]; omega
      obtain ⟨j, hj⟩ : ∃ j, k - 1 = j := ⟨_, rfl⟩
      rw [hj] at hwk
      have hjk : j < sk.size := by omega
      have hjk' : (j : Int) < (sk.size : Int) := by omega
      obtain ⟨c, hcc⟩ : ∃ c, sk[j] = c := ⟨_, rfl⟩
      have HCC := Lib.hid (HC.out c)
      obtain ⟨q, hq⟩ : ∃ q, cs.contains c = q := ⟨_, rfl⟩
      rw [hq] at HCC
      have HQ := Lib.hid hq
      clear h1 h2 H hq
      go_wp2_with fail
      refine HCC.out.mono ?_
      rintro e wx ⟨rfl, rfl⟩
      cases q
      · go_wp2_with fail
        go_ret
        obtain ⟨e1, e2⟩ := HR.out
        have hl : sk.data.toList.getLast? = some c := by
          rw [List.getLast?_eq_getElem?, List.getElem?_eq_getElem (by simp; omega), ← hcc]
          simp only [Array.length_toList, Option.some.injEq]
          show sk.data.toList[sk.size - 1]'_ = _
          simp only [show sk.size - 1 = j from by omega]
          rfl
        refine ⟨rfl, sk, rfl, ?_, .inr ⟨?_, c, hl, HQ.out⟩⟩
        · have := HN.out; omega
        · unfold allIn
          rw [e1, List.all_append]
          have : sk.data.toList.all cs.contains = false := by
            rw [List.all_eq_false]
            exact ⟨c, List.mem_of_getLast? hl, by rw [HQ.out]; decide⟩
          rw [this, Bool.false_and]
      · go_wp2_with fail
        go_roundg j
        case measure => omega
        case rel =>
          obtain ⟨e1, e2⟩ := HR.out
          have hd : sk.data.toList = (sk.extract 0 j).data.toList ++ [c] := by
            rw [ext_list, List.drop_zero]
            have hl : sk.data.toList.length = j + 1 := by simp; omega
            have h1 : sk.data.toList[j]? = some c := by
              rw [List.getElem?_eq_getElem (by omega), ← hcc]
              rfl
            have h2 := List.take_add_one (l := sk.data.toList) (i := j)
            rw [h1, List.take_of_length_le (by omega)] at h2
            exact h2
          refine ⟨j, sk.extract 0 j, rfl, by omega, by go_num, by simp; omega, Lib.hid ⟨rfl, [c] ++ rest, by rw [e1, ← List.append_assoc, ← hd], by rw [List.all_append, e2]; simpa using HQ.out⟩⟩
    · obtain rfl : k = 0 := by omega
      clear h1 h2 H
      go_wp2_with fail
      go_ret
      obtain ⟨e1, e2⟩ := HR.out
      have h0 : sk = ⟨#[]⟩ := empty_of sk hsk
      subst h0
      refine ⟨rfl, _, rfl, Nat.zero_le _, .inl ⟨?_, rfl⟩⟩
      unfold allIn
      rw [e1]
      exact e2
set_option maxRecDepth 100000 in
set_option maxHeartbeats 8000000 in
theorem trimL_none (b : Nat) (w : World) : Calls Tryz.prog 259 #[.string ⟨#[]⟩, .pointer (some ⟨b, 0, none⟩)] w fun e w' => e = .returned (.string ⟨#[]⟩) ∧ w = w' := by
  go_enter Tryz.func259, Tryz.ntmps259
  go_wp2_with fail
  go_loopg [0] 0 (fun gg v0 wx => gg = 0 ∧ v0 = .string ⟨#[]⟩ ∧ w = wx)
  case atStart => exact ⟨rfl, rfl, rfl⟩
  case round =>
    obtain ⟨rfl, rfl, rfl⟩ := hrel
    go_wp2_with fail
    go_ret
    exact ⟨rfl, rfl⟩
set_option maxRecDepth 100000 in
set_option maxHeartbeats 8000000 in
theorem trimL_some (b : Nat) (cs : List UInt8) (s : ByteArray) (c0 : UInt8) (w : World) (hs : s.size ≤ 100000) (h : SetAt w b cs) (hl : s.data.toList.getLast? = some c0) (hc0 : cs.contains c0 = false) :
    Calls Tryz.prog 259 #[.string s, .pointer (some ⟨b, 0, none⟩)] w fun e w' => w = w' ∧ ∃ t, e = .returned (.string t) ∧ t.size ≠ 0 := by
  have HC := Lib.hid (fun c => setHas_any b cs c w h)
  obtain ⟨n, hn⟩ : ∃ n, s.size = n := ⟨_, rfl⟩
  have HN := Lib.hid hn
  rw [hn] at hs
  have HL := Lib.hid hl
  have HC0 := Lib.hid hc0
  clear h hn hl hc0
  go_enter Tryz.func259, Tryz.ntmps259
  go_wp2_with fail
  go_loopg [0] n (fun gg v0 wx => ∃ (k : Nat) (sk : ByteArray), k = gg ∧ k ≤ n ∧ 1 ≤ k ∧ v0 = .string sk ∧ sk.size = k ∧ Hid (w = wx ∧ sk.data.toList.getLast? = some c0))
  case atStart =>
    refine ⟨n, s, rfl, Nat.le_refl _, ?_, rfl, HN.out, Lib.hid ⟨rfl, HL.out⟩⟩
    have h1 := List.mem_of_getLast? HL.out
    have h2 := List.length_pos_of_mem h1
    have := HN.out
    simp at h2
    omega
  case round =>
    obtain ⟨k, sk, rfl, hk, hk1, rfl, hsk, H⟩ := hrel
    obtain ⟨rfl, h1⟩ := H.out
    have HR := Lib.hid h1
    have h0' : (0 : Int) < (k : Int) := by omega
    have hjk : 0 < sk.size := by omega
    have hjk' : (0 : Int) < (sk.size : Int) := by omega
    have hjk1 : (1 : Int) ≤ (sk.size : Int) := by omega
    obtain ⟨c, hcc⟩ : ∃ c, sk[0] = c := ⟨_, rfl⟩
    have HCC := Lib.hid (HC.out c)
    obtain ⟨q, hq⟩ : ∃ q, cs.contains c = q := ⟨_, rfl⟩
    rw [hq] at HCC
    have HQ := Lib.hid hq
    clear h1 H hq
    go_wp2_with fail
    refine HCC.out.mono ?_
    rintro e wx ⟨rfl, rfl⟩
    cases q
    · go_wp2_with fail
      go_ret
      exact ⟨rfl, sk, rfl, by omega⟩
    · have hk2 : 1 < k := by
        rcases Nat.lt_or_ge 1 k with h | h
        · exact h
        · exfalso
          have hl : sk.data.toList.length = 1 := by simp; omega
          have e2 := HR.out
          rw [List.getLast?_eq_getElem?, hl, List.getElem?_eq_getElem (by omega)] at e2
          have e3 : sk.data.toList[0]'(by omega) = c := by rw [← hcc]; rfl
          have e4 : c = c0 := by rw [← e3]; exact Option.some.inj e2
          have := HQ.out
          rw [e4, HC0.out] at this
          cases this
      go_wp2_with fail
      go_roundg (k - 1)
      case measure => omega
      case rel =>
        refine ⟨k - 1, sk.extract 1 k, rfl, by omega, by omega, by go_num, by rw [ByteArray.size_extract]; omega, Lib.hid ⟨rfl, ?_⟩⟩
        rw [ext_list, List.take_of_length_le (by simp; omega), List.getLast?_drop, if_neg (by simp; omega)]
        exact HR.out
theorem nil_ne {s : ByteArray} (h : s.size ≠ 0) : (s.toList == []) = false := by
  rw [ByteArray.toList_eq, beq_eq_false_iff_ne]
  intro e
  apply h
  have := congrArg List.length e
  simpa using this
set_option maxRecDepth 100000 in
set_option maxHeartbeats 8000000 in
theorem trim_any (cs s : ByteArray) (w : World) (hs : s.size ≤ 100000) (hcs : cs.size ≤ 1000) (hc2 : 2 ≤ cs.size) (ha : ∀ c ∈ cs.data.toList, c.toNat < 128) :
    Calls Tryz.prog 212 #[.string s, .string cs] w fun e w' => (∃ t, e = .returned (.string t) ∧ ((allIn cs.data.toList s = true ∧ t = ⟨#[]⟩) ∨ (allIn cs.data.toList s = false ∧ t.size ≠ 0))) ∧ Below w.heap.size w w' := by
  by_cases h0 : s.size = 0
  · obtain rfl := empty_of s h0
    clear h0 hs ha hcs hc2
    go_enter Tryz.func212, Tryz.ntmps212
    go_wp2_with fail
    go_ret
    exact ⟨⟨_, rfl, .inl ⟨rfl, rfl⟩⟩, Below.refl _ _⟩
  · have e0 : (s.toList == []) = false := nil_ne h0
    have e1 : (cs.toList == []) = false := nil_ne (by omega)
    have hc1 : ((cs.size : Int) == 1) = false := by
      rw [beq_eq_false_iff_ne]
      omega
    have HM := Lib.hid (fun w => mkset_any cs w (by omega) ha)
    obtain ⟨z, hz⟩ : ∃ z, z = setL [] := ⟨_, rfl⟩
    have hzz := zero_set
    rw [← hz] at hzz
    obtain ⟨rr, hrr⟩ : ∃ rr, rr = setL cs.data.toList := ⟨_, rfl⟩
    have h1 := size_set cs.data.toList
    have h2 := one_set cs.data.toList
    rw [← hrr] at HM h1 h2
    have HRR := Lib.hid hrr
    have HTR := Lib.hid (fun b w h => trimR_any b cs.data.toList s w hs h)
    have HS := Lib.hid hs
    have HZ1 : Hid (∀ w, (zeroValue 317).run Tryz.prog w = .ok (.agg z.toArray) w) := Lib.hid hzz
    have HSZ : Hid (z.toArray.size = rr.toArray.size) := Lib.hid (by rw [hz, hrr, List.size_toArray, List.size_toArray, setL_len, setL_len])
    clear hz hrr hzz ha hcs
    go_enter Tryz.func212, Tryz.ntmps212
    go_wp2_with fail
    refine (HM.out _).mono ?_
    rintro e w1 ⟨rfl, hb1⟩
    have HB1 := Lib.hid hb1
    have hz1 := HZ1.out w1
    have hnew : (w1.alloc (.cells z.toArray 317)).heap[w1.heap.size]? = some (.cells z.toArray 317 (0, 0)) := heap_alloc_new w1 _
    have hrow : (w1.alloc (.cells z.toArray 317)).setRow w1.heap.size rr.toArray = w1.alloc (.cells rr.toArray 317) := World.setRow_alloc_new w1 _ _ _
    clear hb1 HM
    go_wp2_with (refine wpList_store_row rfl 317 _ _ rfl w1.heap.size rr.toArray rfl rfl _ _ hnew h1 HSZ.out h2 ?_)
    have HST : Hid (SetAt (w1.alloc (.cells rr.toArray 317)) w1.heap.size cs.data.toList ∧ Below w.heap.size w (w1.alloc (.cells rr.toArray 317))) := Lib.hid (by
      refine ⟨?_, HB1.out.alloc HB1.out.size _⟩
      unfold SetAt
      rw [heap_alloc_new, HRR.out])
    generalize (w1.alloc (.cells rr.toArray 317)) = w2 at *
    clear hnew hrow hz1
    refine (HTR.out _ _ HST.out.1).mono ?_
    rintro e wx ⟨rfl, t, rfl, hts, hcase⟩
    have HCS := Lib.hid hcase
    have HTS := Lib.hid hts
    clear hcase hts HTR
    rcases HCS.out with ⟨ha, rfl⟩ | ⟨ha, c, hl, hc⟩
    · have HL := Lib.hid (fun b w => trimL_none b w)
      have HA := Lib.hid ha
      clear ha
      go_wp2_with fail
      refine (HL.out _ _).mono ?_
      rintro e wx ⟨rfl, rfl⟩
      go_wp2_with fail
      go_ret
      exact ⟨⟨_, rfl, .inl ⟨HA.out, rfl⟩⟩, HST.out.2⟩
    · have HL := Lib.hid (trimL_some _ cs.data.toList t c _ (by have := HTS.out; have := HS.out; omega) HST.out.1 hl hc)
      have HA := Lib.hid ha
      clear ha hl hc HCS
      go_wp2_with fail
      refine HL.out.mono ?_
      rintro e wx ⟨rfl, u, rfl, hu⟩
      have HU := Lib.hid hu
      clear hu HL
      go_wp2_with fail
      go_ret
      exact ⟨⟨_, rfl, .inr ⟨HA.out, HU.out⟩⟩, HST.out.2⟩
end Go.Proofs.YtjicdcmdgbcdcaaGreatDoor.Scr
end
section
namespace Go.Proofs.YtjicdcmdgbcdcaaGreatDoor.Scr
set_option linter.unusedSimpArgs false
set_option linter.unusedVariables false
open Go Go.RowKit Mem Turn Ring

theorem callCount (s : ByteArray) (c : Int) (w : World) : (callFunc 254 #[.string s, .int .u8 c]).run Tryz.prog w = .ok (.value (.int .i64 (Lib.countByte s.data.toList c.toNat.toUInt8 : Nat))) w := by
  rw [run_callFunc_extern Tryz.func254 (by kernel_rfl) (by kernel_rfl) (by kernel_rfl) (e := Extern.BytealgCount.count) (by kernel_rfl), Lib.run_countString]
  rfl
set_option maxRecDepth 100000 in
set_option maxHeartbeats 8000000 in
theorem sCount1 (s : ByteArray) (c : UInt8) (w : World) : Calls Tryz.prog 209 #[.string s, .string ⟨#[c]⟩] w fun e w' => e = .returned (.int .i64 (Lib.countByte s.data.toList c : Nat)) ∧ w = w' := by
  have hc : Lib.countByte s.data.toList (c.toNat : Int).toNat.toUInt8 = Lib.countByte s.data.toList c := by simp
  have HC := Lib.hid (callCount s (c.toNat : Int) w)
  rw [hc] at HC
  generalize Lib.countByte s.data.toList c = i at *
  clear hc
  have HC2 : Hid ((callFunc 254 #[.string s, .int .u8 ((({ data := #[c] } : ByteArray)[0]'(Nat.zero_lt_one)).toNat : Int)]).run Tryz.prog w = .ok (.value (.int .i64 (i : Int))) w) := HC
  go_enter Tryz.func209, Tryz.ntmps209
  go_wp2_with (simp only [HC2.out])
  go_ret
  exact ⟨rfl, rfl⟩

theorem fill_gen0 {α : Type _} (S : List α) (z x : α) (h i : Nat) (hS : S.length = h) (hi : i < h) (hx : S[i]? = some x) : (S.take i ++ List.replicate (h - i) z).set i x = S.take (i + 1) ++ List.replicate (h - (i + 1)) z := by
  have e1 : (S.take i).length = i := by rw [List.length_take]; omega
  rw [List.set_append_right _ _ (by rw [e1]; exact Nat.le_refl _), e1, Nat.sub_self, show h - i = (h - (i + 1)) + 1 from by omega, List.replicate_succ, List.set_cons_zero, List.take_add_one, hx, List.append_assoc]
  rfl
/-- the words of a text -/
def SplitB (c : UInt8) : ByteArray → List ByteArray → Prop
  | _, [] => False
  | s, [x] => x = s
  | s, x :: y :: ws => ∃ i : Nat, ([c] == s.toList) = false ∧ Lib.indexByte s.data.toList c = (i : Int) ∧ i + 1 ≤ s.size ∧ s.size ≤ 100000 ∧ s.extract 0 i = x ∧ SplitB c (s.extract (i + 1) s.size) (y :: ws)
theorem info_string : (Tryz.prog.info? 9).map (fun i => (i.zero, i.size, i.bytes)) = some (some (.string ⟨#[]⟩), 1, 16) := by kernel_rfl
theorem made_words (k : Nat) : madeCells (Value.string ⟨#[]⟩).cells (k * 1) = (Array.replicate k (Value.string ⟨#[]⟩)) := by
  apply Array.ext
  · rw [size_madeCells, Array.size_replicate, Nat.mul_one]
  · intro i h1 h2
    have h3 : i % 1 = 0 := Nat.mod_one i
    simp [madeCells, Value.cells, h3]
theorem make_words (k : Nat) (hk : k ≤ 100001) (W : World) : (Instr.makeSlice 146 (.int .i64 (k : Int)) (.int .i64 (k : Int))).run Tryz.prog W = .ok (.slice (some ⟨W.heap.size, 0, none⟩) k k) (W.alloc (.cells (Array.replicate k (Value.string ⟨#[]⟩)) 9)) := by
  obtain ⟨i0, hi, hz0, hz1, hz2⟩ := info_parts info_string
  have := run_makeSlice (P := Tryz.prog) W 146 9 i0 _ Tryz.underlying146 hi hz0 .i64 .i64 (k : Int) (k : Int) (by omega) (Int.le_refl _) (by rw [hz1]; simp; omega) (by rw [hz2]; omega) (by omega)
  rw [hz1] at this
  simp only [Int.toNat_natCast] at this
  rw [made_words] at this
  exact this
def wordsA (ws : List ByteArray) (k m : Nat) : List Value := (ws.take k).map Value.string ++ List.replicate (m - k) (.string ⟨#[]⟩)

set_option maxRecDepth 100000 in
set_option maxHeartbeats 8000000 in
theorem genSplit1 (s : ByteArray) (c : UInt8) (ws : List ByteArray) (m : Nat) (w : World) (hs : SplitB c s ws) (hm : ws.length = m) (hc : Lib.countByte s.data.toList c + 1 = m) (hms : m ≤ s.size + 1) (hsz : s.size ≤ 100000) :
    Calls Tryz.prog 139 #[.string s, .string ⟨#[c]⟩, .int .i64 0, .int .i64 (-1)] w fun e w' => ∃ cp, e = .returned (.slice (some ⟨w.heap.size, 0, none⟩) m cp) ∧ m ≤ cp ∧ w'.heap[w.heap.size]? = some (.cells (ws.map Value.string).toArray 9 (0, 0)) ∧ Below w.heap.size w w' := by
  have hmx : Tryz.prog.follows .mixedOrders = true := by kernel_rfl
  have HC := Lib.hid (sCount1 s c w)
  obtain ⟨q, hq⟩ : ∃ q, q = Lib.countByte s.data.toList c := ⟨_, rfl⟩
  rw [← hq] at HC hc
  have hwq : IntKind.i64.wrap ((q : Int) + 1) = (m : Int) := by rw [IntKind.wrap_i64]; omega
  have hws : IntKind.i64.wrap ((s.size : Int) + 1) = (s.size : Int) + 1 := by rw [IntKind.wrap_i64]; omega
  have hmin : min (m : Int) ((s.size : Int) + 1) = (m : Int) := by omega
  have hm0 : 1 ≤ m := by omega
  have hwm : IntKind.i64.wrap ((m : Int) - 1) = (m : Int) - 1 := by rw [IntKind.wrap_i64]; omega
  replace hq := Lib.hid hq
  replace hc := Lib.hid hc
  have HS := Lib.hid hs
  have HM := Lib.hid hm
  have HK := Lib.hid (fun w => make_words m (by omega) w)
  clear hs hm
  go_enter Tryz.func139, Tryz.ntmps139
  go_wp2_with fail
  refine HC.out.mono ?_
  rintro e w1 ⟨rfl, rfl⟩
  have q1 := HK.out w
  go_wp2_with fail
  clear q1
  have HI : Hid (SplitB c s (ws.drop 0) ∧ (w.alloc (.cells (Array.replicate m (Value.string ⟨#[]⟩)) 9)).heap[w.heap.size]? = some (.cells (wordsA ws 0 m).toArray 9 (0, 0)) ∧ Below w.heap.size w (w.alloc (.cells (Array.replicate m (Value.string ⟨#[]⟩)) 9))) := Lib.hid (by
    refine ⟨HS.out, ?_, (Below.refl _ _).alloc (Nat.le_refl _) _⟩
    rw [heap_alloc_new]
    simp [wordsA])
  generalize (w.alloc (.cells (Array.replicate m (Value.string ⟨#[]⟩)) 9)) = w1 at *
  go_loopg [0, 10, 11] m (fun gg v0 v10 v11 wx => ∃ (k : Nat) (sk : ByteArray), m - k = gg ∧ k + 1 ≤ m ∧ v0 = .string sk ∧ v10 = .int .i64 (k : Int) ∧ Hid (SplitB c sk (ws.drop k) ∧ wx.heap[w.heap.size]? = some (.cells (wordsA ws k m).toArray 9 (0, 0)) ∧ Below w.heap.size w wx))
  case atStart => exact ⟨0, s, rfl, hm0, rfl, rfl, HI⟩
  case round =>
    obtain ⟨k, sk, rfl, hk, rfl, rfl, H⟩ := hrel
    obtain ⟨hsp, hhp, hbw⟩ := H.out
    have hwl : (wordsA ws k m).length = m := by
      unfold wordsA
      rw [List.length_append, List.length_map, List.length_take, List.length_replicate, HM.out]
      omega
    have HWL := Lib.hid hwl
    by_cases hlt : k + 1 < m
    · have hlt' : (k : Int) < (m : Int) - 1 := by omega
      obtain ⟨x, y, ws', hd⟩ : ∃ x y ws', ws.drop k = x :: y :: ws' := by
        have hl : (ws.drop k).length = m - k := by rw [List.length_drop, HM.out]
        rcases e : ws.drop k with _ | ⟨x, _ | ⟨y, ws'⟩⟩
        · rw [e] at hl; simp at hl; omega
        · rw [e] at hl; simp at hl; omega
        · exact ⟨x, y, ws', rfl⟩
      rw [hd] at hsp
      obtain ⟨i, hne, hi, hs1, hs2, hx, hrest⟩ := hsp
      have hd1 : ws.drop (k + 1) = y :: ws' := by rw [← List.drop_drop, hd]; rfl
      have hxk : ws[k]? = some x := by
        have := congrArg (fun l => l[0]?) hd
        simpa using this
      obtain ⟨b, hb⟩ : ∃ b, b = sk.extract (i + 1) sk.size := ⟨_, rfl⟩
      rw [← hb] at hrest
      have HIX := Lib.hid (sIndex1 sk c wr hne)
      rw [hi] at HIX
      have HRS : Hid (SplitB c b (ws.drop (k + 1))) := Lib.hid (by rw [hd1]; exact hrest)
      have hcell : wr.cell? ⟨w.heap.size, k, none⟩ = some (.string ⟨#[]⟩) := by
        simp only [World.cell?, hhp]
        unfold wordsA
        rw [List.getElem?_toArray, List.getElem?_append_right (by simp; omega)]
        simp [HM.out, List.getElem?_replicate]
        omega
      have hfz : wr.frozen? ⟨w.heap.size, k, none⟩ = false := by simp [World.frozen?, hhp]
      obtain ⟨j, hj⟩ : ∃ j, j = i + 1 := ⟨_, rfl⟩
      have hwj : IntKind.i64.wrap ((i : Int) + 1) = (j : Int) := by rw [IntKind.wrap_i64]; omega
      have hwi : IntKind.i64.wrap (i : Int) = (i : Int) := by rw [IntKind.wrap_i64]; omega
      have hjs : j ≤ sk.size := by omega
      have hjs' : (j : Int) ≤ (sk.size : Int) := by omega
      have his' : (i : Int) ≤ (sk.size : Int) := by omega
      have hi0 : ¬ ((i : Int) < 0) := by omega
      rw [← hj] at hb
      have hb' := hb.symm
      replace hj := Lib.hid hj
      replace hb := Lib.hid hb
      have hkm : k < m := by omega
      have HST : Hid ((wr.setCell ⟨w.heap.size, k, none⟩ (.string x)).heap[w.heap.size]? = some (.cells (wordsA ws (k + 1) m).toArray 9 (0, 0)) ∧ Below w.heap.size w (wr.setCell ⟨w.heap.size, k, none⟩ (.string x))) := Lib.hid (by
        refine ⟨?_, hbw.trans ((Turn.setCell (T := fun b => b = w.heap.size) (p := ⟨w.heap.size, k, none⟩) wr (.string x) rfl).below hbw.size (fun b e => by rw [e]; exact Nat.le_refl _))⟩
        rw [heap_set1 hhp k (.string x)]
        congr 3
        have := fill_gen0 (ws.map Value.string) (.string ⟨#[]⟩) (.string x) m k (by rw [List.length_map, HM.out]) hkm (by rw [List.getElem?_map, hxk]; rfl)
        unfold wordsA
        rw [List.map_take, List.map_take]
        exact this)
      clear hne hi hs1 hs2 hrest hd hd1 hxk hhp hbw H hwl
      go_wp2_with fail
      refine HIX.out.mono ?_
      rintro e wx ⟨rfl, rfl⟩
      go_wp2_with fail
      go_roundg (m - (k + 1))
      case measure => omega
      case rel => exact ⟨k + 1, b, rfl, by omega, by go_num, by go_num, Lib.hid ⟨HRS.out, HST.out.1, HST.out.2⟩⟩
    · have hge : (m : Int) - 1 ≤ (k : Int) := by omega
      have hwk : IntKind.i64.wrap ((k : Int) + 1) = (m : Int) := by rw [IntKind.wrap_i64]; omega
      have hkm : (k : Int) < (m : Int) := by omega
      have hd : ws.drop k = [sk] := by
        have hl : (ws.drop k).length = 1 := by rw [List.length_drop, HM.out]; omega
        rcases e : ws.drop k with _ | ⟨x, _ | ⟨y, ws'⟩⟩
        · rw [e] at hl; simp at hl
        · rw [e] at hsp; rw [show sk = x from hsp.symm]
        · rw [e] at hl; simp at hl
      have hxk : ws[k]? = some sk := by
        have := congrArg (fun l => l[0]?) hd
        simpa using this
      have hcell : wr.cell? ⟨w.heap.size, k, none⟩ = some (.string ⟨#[]⟩) := by
        simp only [World.cell?, hhp]
        unfold wordsA
        rw [List.getElem?_toArray, List.getElem?_append_right (by simp; omega)]
        simp [HM.out, List.getElem?_replicate]
        omega
      have hfz : wr.frozen? ⟨w.heap.size, k, none⟩ = false := by simp [World.frozen?, hhp]
      have HST : Hid ((wr.setCell ⟨w.heap.size, k, none⟩ (.string sk)).heap[w.heap.size]? = some (.cells (ws.map Value.string).toArray 9 (0, 0)) ∧ Below w.heap.size w (wr.setCell ⟨w.heap.size, k, none⟩ (.string sk))) := Lib.hid (by
        refine ⟨?_, hbw.trans ((Turn.setCell (T := fun b => b = w.heap.size) (p := ⟨w.heap.size, k, none⟩) wr (.string sk) rfl).below hbw.size (fun b e => by rw [e]; exact Nat.le_refl _))⟩
        rw [heap_set1 hhp k (.string sk)]
        congr 3
        have := fill_gen0 (ws.map Value.string) (.string ⟨#[]⟩) (.string sk) m k (by rw [List.length_map, HM.out]) (by omega) (by rw [List.getElem?_map, hxk]; rfl)
        unfold wordsA
        rw [List.map_take]
        rw [show k + 1 = m from by omega, Nat.sub_self] at this
        rw [show m - k = 1 from by omega] at this ⊢
        rw [this, List.take_of_length_le (by rw [List.length_map, HM.out]; exact Nat.le_refl _)]
        simp)
      clear hsp hd hxk hhp hbw H hwl
      go_wp2_with fail
      go_ret
      exact ⟨_, rfl, Nat.le_refl _, HST.out.1, HST.out.2⟩

set_option maxRecDepth 100000 in
set_option maxHeartbeats 8000000 in
theorem sSplit1 (s : ByteArray) (c : UInt8) (ws : List ByteArray) (m : Nat) (w : World) (hs : SplitB c s ws) (hm : ws.length = m) (hc : Lib.countByte s.data.toList c + 1 = m) (hms : m ≤ s.size + 1) (hsz : s.size ≤ 100000) :
    Calls Tryz.prog 85 #[.string s, .string ⟨#[c]⟩] w fun e w' => ∃ cp, e = .returned (.slice (some ⟨w.heap.size, 0, none⟩) m cp) ∧ m ≤ cp ∧ w'.heap[w.heap.size]? = some (.cells (ws.map Value.string).toArray 9 (0, 0)) ∧ Below w.heap.size w w' := by
  have HC := Lib.hid (genSplit1 s c ws m w hs hm hc hms hsz)
  clear hs hm hc hms hsz
  go_enter Tryz.func85, Tryz.ntmps85
  go_wp2_with fail
  refine HC.out.mono ?_
  rintro e w1 ⟨cp, rfl, h1, h2, h3⟩
  have H1 := Lib.hid h2
  have H2 := Lib.hid h3
  clear h2 h3 HC
  go_wp2_with fail
  go_ret
  exact ⟨cp, rfl, h1, H1.out, H2.out⟩
end Go.Proofs.YtjicdcmdgbcdcaaGreatDoor.Scr
end
