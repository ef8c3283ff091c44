/- Contracts: what is gathered by texts of words: made, added to. Conditions: told by each spec. Contract: the sum of what was gathered. Conditions: told by its spec. Plain law: what is gathered by texts of words and then sorted is what is put in, in order. Conditions: words with few, small letters. -/
import Derived.Test.YtokakggilajjlaaVS7
import Derived.Test.YtokakggilajjlaaVS4
import Derived.Test.YtokakggilajjlaaVQ
import Derived.Test.YtokakggilajjlaaVS3
import Derived.Test.YtokakggilajjlaaVL
set_option linter.unusedVariables false
set_option linter.unusedSimpArgs false
namespace Go.Proofs.Ytokakggilajjlaa.V
open Go
abbrev MapL := List (ByteArray × (List Int × Int))
abbrev tG : Nat := 154
abbrev tMT : Nat := 152
abbrev oG (p : Int) (m : Nat) : Obj' := .box tG [.v (.int .i64 p), .own m]
abbrev oM (l : MapL) : Obj' := .mp tMT kTerm ([], 0) l
def gAt (l : MapL) (w : List Int) : Int := ((findK l (textB w)).getD ([], 0)).2
def gAdd (p : Int) (l : MapL) (w : List Int) (v : Int) : MapL := putK l (textB w) (w, modI p (w64 (gAt l w + v)))
theorem bytesS_size (l : List Int) : (bytesS l).size = l.length := by
  have h : ∀ (l : List Int) (r : ByteArray), (l.foldl (fun r n => r.push (UInt8.ofNat n.toNat)) r).size = r.size + l.length := fun l => by
    induction l with
    | nil => intro r; rfl
    | cons x l ih =>
      intro r
      rw [List.foldl_cons, ih, ByteArray.size_push, List.length_cons]
      omega
  unfold bytesS
  rw [h]
  simp
theorem textB_size (w : List Int) : (textB w).size = w.length := by rw [textB, bytesS_size, List.length_map]
def sp_newG : List Cv → List Obj' → Tree
  | [.one (.v (.int .i64 p))], [] => .ret (.val (.one (.ptr 0 0))) [oG p 1, oM []]
  | _, _ => .fail
set_option maxHeartbeats 4000000 in
set_option maxRecDepth 100000 in
theorem good_newG : Good Try.prog 116 sp_newG := by
  refine good_ofF Try.func116 rfl _ rfl _ rfl (tab []) (fun X cs os0 K hok hos hK => ?_)
  clear hos; unfold sp_newG at hK
  split at hK
  case h_2 => exact hK.elim
  rename_i p
  refine ⟨by simp, by simp, ?_⟩
  simp only [go_sem] at hK hok
  simp (maxSteps := 4000000) only [go_sem, Try.f116, ↓brB_t, ↓brB_f, Nat.reduceAdd, Int.reduceLE, Int.reduceLT, Int.reduceNeg, decide_true, decide_false, Bool.and_self, Nat.succ_eq_add_one, Int.toNat_natCast, Nat.beq_refl, Bool.and_true, Bool.true_and, Bool.false_or, Bool.or_true, List.all_cons, List.all_nil, Nat.reduceMul, Nat.add_zero, Nat.zero_add, List.length_nil, List.length_cons, dite_true, List.nil_append, Nat.reduceBEq, reduceDIte, reduceIte, reduceCtorEq, Bool.or_false, Bool.true_or, Bool.and_false, Bool.false_and, Bool.not_true, Bool.not_false, Option.isSome_some, Option.isSome_none, Option.getD_some, List.getElem?_cons_zero, List.getElem?_cons_succ, eq_self, and_self, List.take_succ_cons, List.take_zero, List.drop_succ_cons, List.drop_zero]
  exact retN [112, 80] rfl hK
def c_newG : Ctr Try.prog := ⟨116, ent Try.func116 rfl rfl, [], sp_newG, good_newG, []⟩
@[go_sem] theorem c_newG_f : c_newG.f = 116 := rfl
@[go_sem] theorem c_newG_ms : c_newG.ms = [] := rfl
@[go_sem] theorem c_newG_sp : c_newG.spec = sp_newG := rfl
@[go_sem] theorem c_newG_fz : c_newG.fz = [] := rfl
attribute [go_sem] sp_newG
def sp_gAdd : List Cv → List Obj' → Tree
  | [.one (.ptr 0 0), .one (.ro (.int .i64) w), .one (.v (.int .i64 v))], [.box t [.v (.int .i64 p), .own 1], .mp 152 (.pr (.sl 2 (.int .i64)) (.int .i64)) z l] =>
    .need (p ≠ 0 ∧ w.length < 1099511627776 ∧ (l : MapL).length ≤ 1099511627776 ∧ z = (([], 0) : List Int × Int)) (.ret (.tup []) [.box t [.v (.int .i64 p), .own 1], .mp 152 (.pr (.sl 2 (.int .i64)) (.int .i64)) z (gAdd p l w v)])
  | _, _ => .fail
set_option maxHeartbeats 4000000 in
set_option maxRecDepth 100000 in
theorem good_gAdd : Good Try.prog 117 sp_gAdd := by
  refine good_ofF Try.func117 rfl _ rfl _ rfl (tab [c_wordText, c_rest]) (fun X cs os0 K hok hos hK => ?_)
  unfold sp_gAdd at hK
  split at hK
  case h_2 => exact hK.elim
  rename_i w v t p z l
  refine ⟨by simp, by simp, ?_⟩
  simp only [go_sem] at hK hok hos
  simp (maxSteps := 4000000) only [go_sem, Try.f117, ↓brB_t, ↓brB_f, Nat.reduceAdd, Int.reduceLE, Int.reduceLT, Int.reduceNeg, decide_true, decide_false, Bool.and_self, Nat.succ_eq_add_one, Int.toNat_natCast, Nat.beq_refl, Bool.and_true, Bool.true_and, Bool.false_or, Bool.or_true, List.all_cons, List.all_nil, Nat.reduceMul, Nat.add_zero, Nat.zero_add, List.length_nil, List.length_cons, dite_true, List.nil_append, Nat.reduceBEq, reduceDIte, reduceIte, reduceCtorEq, Bool.or_false, Bool.true_or, Bool.and_false, Bool.false_and, Bool.not_true, Bool.not_false, Option.isSome_some, Option.isSome_none, Option.getD_some, List.getElem?_cons_zero, List.getElem?_cons_succ, eq_self, and_self, List.take_succ_cons, List.take_zero, List.drop_succ_cons, List.drop_zero]
  obtain ⟨⟨hp, hw, hl, rfl⟩, hK⟩ := hK
  clear hok hos
  have hs : (textB w).size ≤ 1099511627776 := by rw [textB_size]; omega
  refine ⟨hw, hs, hp, ⟨hs, hl⟩, by kernel_rfl, retN [0, 1] rfl hK⟩
def c_gAdd : Ctr Try.prog := ⟨117, ent Try.func117 rfl rfl, [true, false, false], sp_gAdd, good_gAdd, [false, true]⟩
@[go_sem] theorem c_gAdd_f : c_gAdd.f = 117 := rfl
@[go_sem] theorem c_gAdd_ms : c_gAdd.ms = [true, false, false] := rfl
@[go_sem] theorem c_gAdd_sp : c_gAdd.spec = sp_gAdd := rfl
@[go_sem] theorem c_gAdd_fz : c_gAdd.fz = [false, true] := rfl
attribute [go_sem] sp_gAdd
def gAll (p : Int) (l : MapL) (k : Int) (ts : TermL) : MapL := ts.foldl (fun l x => gAdd p l x.1 (w64 (x.2 * k))) l
theorem gAdd_len (p : Int) (l : MapL) (w : List Int) (v : Int) : (gAdd p l w v).length ≤ l.length + 1 := by
  unfold gAdd
  rw [putK_length]
  split <;> omega
theorem gAll_s {p : Int} {l : MapL} {k : Int} {ts : TermL} {i : Nat} (h : i < ts.length) : gAll p l k (ts.take (i + 1)) = gAdd p (gAll p l k (ts.take i)) (ts.getD i ([], 0)).1 (w64 ((ts.getD i ([], 0)).2 * k)) := by
  have e : ts.getD i ([], 0) = ts[i] := by rw [List.getD_eq_getElem?_getD, List.getElem?_eq_getElem h]; rfl
  rw [gAll, List.take_succ_eq_append_getElem h, List.foldl_append, e]; rfl
theorem gAll_len (p : Int) (l : MapL) (k : Int) (ts : TermL) : (gAll p l k ts).length ≤ l.length + ts.length := by
  unfold gAll
  induction ts generalizing l with
  | nil => simp
  | cons x ts ih =>
    rw [List.foldl_cons, List.length_cons]
    have := ih (gAdd p l x.1 (w64 (x.2 * k)))
    have := gAdd_len p l x.1 (w64 (x.2 * k))
    omega
def sp_gAll : List Cv → List Obj' → Tree
  | [.one (.ptr 0 0), .agg [.v (.int .i64 q), .ro (.pr (.sl 2 (.int .i64)) (.int .i64)) ts], .one (.v (.int .i64 k))], [.box t [.v (.int .i64 p), .own 1], .mp 152 (.pr (.sl 2 (.int .i64)) (.int .i64)) z l] =>
    .need (p ≠ 0 ∧ (∀ x ∈ (ts : TermL), x.1.length < 1099511627776) ∧ (l : MapL).length + (ts : TermL).length ≤ 1099511627776 ∧ z = (([], 0) : List Int × Int)) (.ret (.val (.one (.ptr 0 0))) [.box t [.v (.int .i64 p), .own 1], .mp 152 (.pr (.sl 2 (.int .i64)) (.int .i64)) z (gAll p l k ts)])
  | _, _ => .fail
set_option maxHeartbeats 4000000 in
set_option maxRecDepth 100000 in
theorem good_gAll : Good Try.prog 127 sp_gAll := by
  refine good_ofF Try.func127 rfl _ rfl _ rfl (tab [c_gAdd]) (fun X cs os0 K hok hos hK => ?_)
  unfold sp_gAll at hK
  split at hK
  case h_2 => exact hK.elim
  rename_i q ts k t p z l
  refine ⟨by simp, by simp, ?_⟩
  simp only [go_sem] at hK hok hos
  simp (maxSteps := 4000000) only [go_sem, Try.f127, ↓brB_t, ↓brB_f, Nat.reduceAdd, Int.reduceLE, Int.reduceLT, Int.reduceNeg, decide_true, decide_false, Bool.and_self, Nat.succ_eq_add_one, Int.toNat_natCast, Nat.beq_refl, Bool.and_true, Bool.true_and, Bool.false_or, Bool.or_true, List.all_cons, List.all_nil, Nat.reduceMul, Nat.add_zero, Nat.zero_add, List.length_nil, List.length_cons, dite_true, List.nil_append, Nat.reduceBEq, reduceDIte, reduceIte, reduceCtorEq, Bool.or_false, Bool.true_or, Bool.and_false, Bool.false_and, Bool.not_true, Bool.not_false, Option.isSome_some, Option.isSome_none, Option.getD_some, List.getElem?_cons_zero, List.getElem?_cons_succ, eq_self, and_self, List.take_succ_cons, List.take_zero, List.drop_succ_cons, List.drop_zero]
  obtain ⟨⟨hp, hw, hl, rfl⟩, hK⟩ := hK
  clear hok hos
  refine loop_okF (T := tab [c_gAdd]) [0, 2, 10, 11, 12] [(0, 0), (1, 1)] (fun i : Nat => ⟨26, [(0, .val (.one (.ptr 0 0))), (2, vi k), (10, .val (.one (.ro kTerm ts))), (11, vi (ts.length : Nat)), (12, vi i)], [(0, .box t [.v (.int .i64 p), .own 1]), (1, oM (gAll p l k (ts.take i)))]⟩)
    (fun i => i ≤ ts.length) (fun i => ts.length - i) 0 rfl rfl (Nat.zero_le _) (fun i hi => ?_)
  have hgl := gAll_len p l k (ts.take i)
  have htl : (ts.take i).length = i := by rw [List.length_take]; omega
  simp only [go_sem, ↓brB_t, ↓brB_f, Nat.reduceAdd, Int.reduceLE, Int.reduceLT, Int.reduceNeg, decide_true, decide_false, Bool.and_self, Nat.succ_eq_add_one, Int.toNat_natCast, Nat.beq_refl, Bool.and_true, Bool.true_and, Bool.false_or, Bool.or_true, List.all_cons, List.all_nil, Nat.reduceMul, Nat.add_zero, Nat.zero_add, List.length_nil, List.length_cons, dite_true, List.nil_append, Nat.reduceBEq, reduceDIte, reduceIte, reduceCtorEq, Bool.or_false, Bool.true_or, Bool.and_false, Bool.false_and, Bool.not_true, Bool.not_false, Option.isSome_some, Option.isSome_none, Option.getD_some, List.getElem?_cons_zero, List.getElem?_cons_succ, eq_self, and_self, List.take_succ_cons, List.take_zero, List.drop_succ_cons, List.drop_zero]
  refine brB_intro (fun h1 => ?_) (fun h1 => retN [0, 1] rfl ?_)
  · have h1 := of_decide_eq_true h1
    have hs := gAll_s (p := p) (l := l) (k := k) (ts := ts) (i := i) (by omega)
    have hw1 : w64 ((i : Int) + 1) = ((i + 1 : Nat) : Int) := w64_s (n := ts.length) (by omega) (by omega)
    refine ⟨⟨by omega, by omega⟩, ⟨hp, hw _ (getD_memT (show i < ts.length by omega)), by omega, trivial⟩, i + 1, [(0, 0), (1, 1)], by omega, by omega, rfl, ?_⟩
    rw [hw1, hs]; rfl
  · have h1 := of_decide_eq_false h1
    have e : i = ts.length := by omega
    rw [e, List.take_length]; exact hK
def c_gAll : Ctr Try.prog := ⟨127, ent Try.func127 rfl rfl, [true, false, false], sp_gAll, good_gAll, [false, true]⟩
@[go_sem] theorem c_gAll_f : c_gAll.f = 127 := rfl
@[go_sem] theorem c_gAll_ms : c_gAll.ms = [true, false, false] := rfl
@[go_sem] theorem c_gAll_sp : c_gAll.spec = sp_gAll := rfl
@[go_sem] theorem c_gAll_fz : c_gAll.fz = [false, true] := rfl
attribute [go_sem] sp_gAll
end Go.Proofs.Ytokakggilajjlaa.V

set_option linter.unusedVariables false
set_option linter.unusedSimpArgs false
namespace Go.Proofs.Ytokakggilajjlaa.V
open Go
/-- What is gathered and is not 0. -/
def nzT (l : MapL) : TermL := (l.map (·.2)).filter fun x => !decide (x.2 = 0)
theorem nzT_mem {l : MapL} {x : List Int × Int} (h : x ∈ nzT l) : ∃ y ∈ l, y.2 = x := by
  obtain ⟨y, hy, e⟩ := List.mem_map.1 (List.mem_filter.1 h).1
  exact ⟨y, hy, e⟩
theorem nzT_nodup {l : MapL} (h : (l.map (·.2.1)).Nodup) : ((nzT l).map (·.1)).Nodup := by
  have : ((nzT l).map (·.1)).Sublist (l.map (·.2.1)) := by
    have := (List.filter_sublist (p := fun x : List Int × Int => !decide (x.2 = 0)) (l := l.map (·.2))).map (·.1)
    rw [List.map_map] at this
    exact this
  exact List.Sublist.nodup this h
theorem erase_perm {α : Type} : ∀ (l : List α) (j : Nat) (h : j < l.length), l.Perm (l[j] :: l.eraseIdx j)
  | x :: l, 0, _ => List.Perm.refl _
  | x :: l, j + 1, h => by
    have := erase_perm l j (by simpa using h)
    simp only [List.getElem_cons_succ, List.eraseIdx_cons_succ]
    exact (this.cons x).trans (List.Perm.swap ..)
theorem nzT_erase {l : MapL} {j : Nat} (h : j < l.length) : (nzT l).Perm (if (l.getD j (ByteArray.empty, ([], 0))).2.2 = 0 then nzT (l.eraseIdx j) else (l.getD j (ByteArray.empty, ([], 0))).2 :: nzT (l.eraseIdx j)) := by
  have e : l.getD j (ByteArray.empty, ([], 0)) = l[j] := by rw [List.getD_eq_getElem?_getD, List.getElem?_eq_getElem h]; rfl
  rw [e]
  have hp : l.Perm (l[j] :: l.eraseIdx j) := erase_perm l j h
  have := (hp.map (·.2)).filter (fun x => !decide (x.2 = 0))
  unfold nzT
  refine this.trans ?_
  rw [List.map_cons, List.filter_cons]
  split
  · rename_i h1
    rw [if_neg (by simpa using h1)]
  · rename_i h1
    rw [if_pos (by simpa using h1)]
def sp_gSum : List Cv → List Obj' → Tree
  | [.one (.ptr 0 0)], [.box t [.v (.int .i64 p), .own 1], .mp 152 (.pr (.sl 2 (.int .i64)) (.int .i64)) z l] =>
    .need ((l : MapL).length ≤ 1000000 ∧ (∀ x ∈ (l : MapL), x.2.1.length < 1099511627776) ∧ ((l : MapL).map (·.2.1)).Nodup) (.ret (.val (.agg [.v (.int .i64 p), .own 2])) [.box t [.v (.int .i64 p), .own 1], .dead, .drow 68 (.pr (.sl 2 (.int .i64)) (.int .i64)) (sortT (nzT l))])
  | _, _ => .fail
set_option maxHeartbeats 4000000 in
set_option maxRecDepth 100000 in
theorem good_gSum : Good Try.prog 118 sp_gSum := by
  refine good_ofF Try.func118 rfl _ rfl _ rfl (tab [c_clone, c_sortT]) (fun X cs os0 K hok hos hK => ?_)
  unfold sp_gSum at hK
  split at hK
  case h_2 => exact hK.elim
  rename_i t p z l
  refine ⟨by simp, by simp, ?_⟩
  simp only [go_sem] at hK hok hos
  simp (maxSteps := 4000000) only [go_sem, Try.f118, ↓brB_t, ↓brB_f, Nat.reduceAdd, Int.reduceLE, Int.reduceLT, Int.reduceNeg, decide_true, decide_false, Bool.and_self, Nat.succ_eq_add_one, Int.toNat_natCast, Nat.beq_refl, Bool.and_true, Bool.true_and, Bool.false_or, Bool.or_true, List.all_cons, List.all_nil, Nat.reduceMul, Nat.add_zero, Nat.zero_add, List.length_nil, List.length_cons, dite_true, List.nil_append, Nat.reduceBEq, reduceDIte, reduceIte, reduceCtorEq, Bool.or_false, Bool.true_or, Bool.and_false, Bool.false_and, Bool.not_true, Bool.not_false, Option.isSome_some, Option.isSome_none, Option.getD_some, List.getElem?_cons_zero, List.getElem?_cons_succ, eq_self, and_self, List.take_succ_cons, List.take_zero, List.drop_succ_cons, List.drop_zero]
  obtain ⟨⟨hl, hw, hn⟩, hK⟩ := hK
  clear hok hos
  refine holds_sub (sub_mat (ms := [⟨.cell 64 1, 19, tI, kTerm⟩]) rfl) ?_
  refine loop_okF (T := tab [c_clone, c_sortT]) [2, 3, 15] [(0, 0), (1, 1), (16, 48), (17, 64), (18, 256), (19, 19)] (fun s : TermL × MapL × Option (ByteArray × (List Int × Int)) => ⟨38, [(2, .val (.one (.ptr 16 0))), (3, .val (.one (.ptr 17 0))), (15, .val (.one (.ptr 18 0)))],
      [(0, .box t [.v (.int .i64 p), .own 1]), (1, .dead), (16, .box 28 [.v (.int .i64 0), .v (.slice none 0 0)]), (17, .box 28 [.v (.int .i64 p), .own 19]), (18, .mit kTerm s.2.1 s.2.2), (19, .drow tI kTerm s.1)]⟩)
    (fun s => (s.1 ++ nzT s.2.1).Perm (nzT l) ∧ s.1.length + s.2.1.length ≤ l.length ∧ ∀ x ∈ s.2.1, x ∈ (l : MapL)) (fun s => s.2.1.length) ([], l, none) rfl rfl ⟨by simp, by simp, fun x hx => hx⟩ (fun s hs => ?_)
  obtain ⟨out, rem, cur⟩ := s
  obtain ⟨h1, h2, h3⟩ := hs
  simp only at h1 h2 h3
  simp only [go_sem, ↓brB_t, ↓brB_f, Nat.reduceAdd, Int.reduceLE, Int.reduceLT, Int.reduceNeg, decide_true, decide_false, Bool.and_self, Nat.succ_eq_add_one, Int.toNat_natCast, Nat.beq_refl, Bool.and_true, Bool.true_and, Bool.false_or, Bool.or_true, List.all_cons, List.all_nil, Nat.reduceMul, Nat.add_zero, Nat.zero_add, List.length_nil, List.length_cons, dite_true, List.nil_append, Nat.reduceBEq, reduceDIte, reduceIte, reduceCtorEq, Bool.or_false, Bool.true_or, Bool.and_false, Bool.false_and, Bool.not_true, Bool.not_false, Option.isSome_some, Option.isSome_none, Option.getD_some, List.getElem?_cons_zero, List.getElem?_cons_succ, eq_self, and_self, List.take_succ_cons, List.take_zero, List.drop_succ_cons, List.drop_zero]
  have hout : ∀ x ∈ out, x ∈ nzT l := fun x hx => h1.mem_iff.1 (List.mem_append_left _ hx)
  have hnz := nzT_nodup hn
  refine brB_intro (fun h4 => ?_) (fun h4 j hj => ?_)
  · have hr : rem = [] := by simpa using h4
    subst hr
    have h1 : out.Perm (nzT l) := by simpa [nzT] using h1
    have hs : sortT out = sortT (nzT l) := sortT_eq (sortT_sorted hnz) ((h1.map _).nodup_iff.2 hnz) fun x => (h1.mem_iff).trans sortT_mem.symm
    refine ⟨⟨trivial, by omega, fun x hx => ?_, (h1.map _).nodup_iff.2 hnz⟩, retN [0, 1, 19] rfl ?_⟩
    · obtain ⟨y, hy, rfl⟩ := nzT_mem (hout x hx)
      exact Nat.le_of_lt (hw y hy)
    · rw [hs]; exact hK
  · have e : rem[j]? = some (rem.getD j (ByteArray.empty, ([], 0))) := by rw [List.getD_eq_getElem?_getD, List.getElem?_eq_getElem hj]; rfl
    have hm : rem.getD j (ByteArray.empty, ([], 0)) ∈ rem := by
      rw [List.getD_eq_getElem?_getD, List.getElem?_eq_getElem hj]; exact List.getElem_mem _
    have hp := nzT_erase hj
    have hwx := hw _ (h3 _ hm)
    have hel := List.length_eraseIdx_of_lt hj
    have hee : ∀ x ∈ rem.eraseIdx j, x ∈ (l : MapL) := fun x hx => h3 x (List.mem_of_mem_eraseIdx hx)
    rw [e]
    generalize rem.getD j (ByteArray.empty, ([], 0)) = y at *
    simp only [go_sem, ↓brB_t, ↓brB_f, Nat.reduceAdd, Int.reduceLE, Int.reduceLT, Int.reduceNeg, decide_true, decide_false, Bool.and_self, Nat.succ_eq_add_one, Int.toNat_natCast, Nat.beq_refl, Bool.and_true, Bool.true_and, Bool.false_or, Bool.or_true, List.all_cons, List.all_nil, Nat.reduceMul, Nat.add_zero, Nat.zero_add, List.length_nil, List.length_cons, dite_true, List.nil_append, Nat.reduceBEq, reduceDIte, reduceIte, reduceCtorEq, Bool.or_false, Bool.true_or, Bool.and_false, Bool.false_and, Bool.not_true, Bool.not_false, Option.isSome_some, Option.isSome_none, Option.getD_some, List.getElem?_cons_zero, List.getElem?_cons_succ, eq_self, and_self, List.take_succ_cons, List.take_zero, List.drop_succ_cons, List.drop_zero]
    refine brB_intro (fun h5 => ?_) (fun h5 => ?_)
    · rw [if_neg (of_decide_eq_false (snb h5))] at hp
      refine ⟨hwx, by omega, by kernel_rfl, (out ++ [y.2], rem.eraseIdx j, some y), [(0, 0), (1, 1), (16, 16), (17, 17), (18, 18), (19, 528)], ⟨?_, ?_, hee⟩, ?_, rfl, rfl⟩
      · refine List.Perm.trans ?_ ((hp.symm.append_left out).trans h1)
        rw [List.append_assoc]
        exact List.Perm.refl _
      · show (out ++ [y.2]).length + (rem.eraseIdx j).length ≤ _
        rw [List.length_append, List.length_singleton]
        omega
      · show (rem.eraseIdx j).length < rem.length
        omega
    · rw [if_pos (of_decide_eq_true (snb' h5))] at hp
      refine ⟨(out, rem.eraseIdx j, some y), [(0, 0), (1, 1), (16, 16), (17, 17), (18, 18), (19, 19)], ⟨(hp.symm.append_left out).trans h1, ?_, hee⟩, ?_, rfl, rfl⟩
      · show out.length + (rem.eraseIdx j).length ≤ _
        omega
      · show (rem.eraseIdx j).length < rem.length
        omega
def c_gSum : Ctr Try.prog := ⟨118, ent Try.func118 rfl rfl, [true], sp_gSum, good_gSum, []⟩
@[go_sem] theorem c_gSum_f : c_gSum.f = 118 := rfl
@[go_sem] theorem c_gSum_ms : c_gSum.ms = [true] := rfl
@[go_sem] theorem c_gSum_sp : c_gSum.spec = sp_gSum := rfl
@[go_sem] theorem c_gSum_fz : c_gSum.fz = [] := rfl
attribute [go_sem] sp_gSum
end Go.Proofs.Ytokakggilajjlaa.V

set_option linter.unusedVariables false
set_option linter.unusedSimpArgs false
namespace Go.Proofs.Ytokakggilajjlaa.V
open Go
/-- Words whose texts tell them. -/
def smB (w : List Int) : Prop := w.length ≤ 24 ∧ ∀ x ∈ w, 0 ≤ x ∧ x < 100
theorem sm_of {w : List Int} (h : isW w = true) : smB w := by
  rw [Go.Proofs.Ytokakggilajjlaa.L.isW_eq] at h
  obtain ⟨h1, h2⟩ := Go.Proofs.Ytokakggilajjlaa.L.word_range h
  exact ⟨by omega, fun x hx => by have := h2 x hx; omega⟩
theorem letter_small {x : Int} (h0 : 0 ≤ x) (h1 : x < 100) : letter x = 97 + x := by unfold letter; omega
theorem bytesS_data (l : List Int) : (bytesS l).data.toList = l.map fun n => UInt8.ofNat n.toNat := by
  have h : ∀ (l : List Int) (r : ByteArray), (l.foldl (fun r n => r.push (UInt8.ofNat n.toNat)) r).data.toList = r.data.toList ++ l.map fun n => UInt8.ofNat n.toNat := fun l => by
    induction l with
    | nil => intro r; simp
    | cons x l ih =>
      intro r
      rw [List.foldl_cons, ih]
      cases r
      simp [ByteArray.push]
  unfold bytesS
  rw [h]
  simp
theorem textB_inj : ∀ {a b : List Int}, smB a → smB b → textB a = textB b → a = b := by
  intro a b ha0 hb0 h0
  have h := congrArg (fun s : ByteArray => s.data.toList) h0
  unfold textB at h
  simp only [bytesS_data, List.map_map] at h
  have ha := ha0.2
  have hb := hb0.2
  clear ha0 hb0 h0
  induction a generalizing b with
  | nil =>
    cases b with
    | nil => rfl
    | cons _ _ => simp at h
  | cons x a ih =>
    cases b with
    | nil => simp at h
    | cons y b =>
      simp only [List.map_cons, List.cons.injEq] at h
      obtain ⟨h1, h2⟩ := h
      rw [ih h2 (fun z hz => ha z (List.mem_cons_of_mem _ hz)) (fun z hz => hb z (List.mem_cons_of_mem _ hz))]
      obtain ⟨a0, a1⟩ := ha x List.mem_cons_self
      obtain ⟨b0, b1⟩ := hb y List.mem_cons_self
      have e := congrArg UInt8.toNat h1
      simp only [Function.comp, letter_small a0 a1, letter_small b0 b1, UInt8.toNat_ofNat'] at e
      congr 1
      omega
/-! ### gathered -/
structure GRep (l : MapL) (c : List Int → Int) : Prop where
  nodup : (l.map (·.1)).Nodup
  key : ∀ x ∈ l, x.1 = textB x.2.1 ∧ smB x.2.1
  val : ∀ w, smB w → gAt l w = c w
theorem find_mem {l : MapL} {s : ByteArray} {x : List Int × Int} (h : findK l s = some x) : (s, x) ∈ l := by
  induction l with
  | nil => cases h
  | cons p r ih =>
    unfold findK at h
    split at h
    · rename_i e
      injection h with h
      rw [← e, ← h]
      exact List.mem_cons_self
    · exact List.mem_cons_of_mem _ (ih h)
theorem find_of {l : MapL} {s : ByteArray} {x : List Int × Int} (hn : (l.map (·.1)).Nodup) (h : (s, x) ∈ l) : findK l s = some x := by
  induction l with
  | nil => cases h
  | cons p r ih =>
    simp only [List.map_cons, List.nodup_cons] at hn
    unfold findK
    rcases List.mem_cons.1 h with rfl | h
    · rw [if_pos rfl]
    · rw [if_neg (fun e => hn.1 (by rw [e]; exact List.mem_map.2 ⟨_, h, rfl⟩))]
      exact ih hn.2 h
theorem find_put (l : MapL) (s s' : ByteArray) (x : List Int × Int) : findK (putK l s x) s' = if s = s' then some x else findK l s' := by
  induction l with
  | nil =>
    simp only [putK, findK]
  | cons p r ih =>
    unfold putK
    by_cases h : p.1 = s
    · rw [if_pos h]
      simp only [findK, h]
      split <;> rfl
    · rw [if_neg h]
      simp only [findK, ih]
      by_cases h2 : p.1 = s'
      · rw [if_pos h2, if_neg (fun e => h (h2.trans e.symm)), if_pos h2]
      · rw [if_neg h2, if_neg h2]
theorem mem_put {l : MapL} {s : ByteArray} {x : List Int × Int} {y : ByteArray × (List Int × Int)} (h : y ∈ putK l s x) : y = (s, x) ∨ y ∈ l := by
  induction l with
  | nil => simpa [putK] using h
  | cons p r ih =>
    unfold putK at h
    split at h
    · rcases List.mem_cons.1 h with h | h
      · exact .inl h
      · exact .inr (List.mem_cons_of_mem _ h)
    · rcases List.mem_cons.1 h with h | h
      · exact .inr (h ▸ List.mem_cons_self)
      · exact (ih h).imp id (List.mem_cons_of_mem _)
/-- A number more at a word. -/
def cAdd (p : Int) (c : List Int → Int) (w : List Int) (v : Int) : List Int → Int := fun u => if u = w then modI p (w64 (c w + v)) else c u
theorem GRep.nil : GRep [] fun _ => 0 := ⟨List.nodup_nil, (fun _ h => by cases h), fun _ _ => rfl⟩
theorem GRep.add {l : MapL} {c : List Int → Int} (h : GRep l c) (p : Int) {w : List Int} (hw : smB w) (v : Int) : GRep (gAdd p l w v) (cAdd p c w v) := by
  refine ⟨putK_nodup h.nodup, fun x hx => ?_, fun u hu => ?_⟩
  · rcases mem_put hx with rfl | hx
    · exact ⟨rfl, hw⟩
    · exact h.key x hx
  · unfold gAt gAdd cAdd
    rw [find_put]
    by_cases e : u = w
    · subst e
      rw [if_pos rfl, if_pos rfl, ← h.val u hu]
      rfl
    · rw [if_neg (fun h => e (textB_inj hw hu h).symm), if_neg e]
      exact h.val u hu
theorem GRep.words {l : MapL} {c : List Int → Int} (h : GRep l c) : (l.map (·.2.1)).Nodup := by
  have hn := h.nodup
  have hk := h.key
  clear h
  induction l with
  | nil => exact List.nodup_nil
  | cons x l ih =>
    simp only [List.map_cons, List.nodup_cons] at hn ⊢
    refine ⟨fun hm => hn.1 ?_, ih hn.2 (fun y hy => hk y (List.mem_cons_of_mem _ hy))⟩
    obtain ⟨y, hy, e⟩ := List.mem_map.1 hm
    rw [(hk x List.mem_cons_self).1, ← e, ← (hk y (List.mem_cons_of_mem _ hy)).1]
    exact List.mem_map.2 ⟨y, hy, rfl⟩
theorem GRep.mem {l : MapL} {c : List Int → Int} (h : GRep l c) (x : List Int × Int) : x ∈ nzT l ↔ smB x.1 ∧ x.2 = c x.1 ∧ x.2 ≠ 0 := by
  constructor
  · intro hx
    have h0 : x.2 ≠ 0 := by simpa using (List.mem_filter.1 hx).2
    obtain ⟨y, hy, rfl⟩ := nzT_mem hx
    obtain ⟨k1, k2⟩ := h.key y hy
    refine ⟨k2, ?_, h0⟩
    have : findK l (textB y.2.1) = some y.2 := find_of h.nodup (by rw [← k1]; exact hy)
    rw [← h.val _ k2, gAt, this]; rfl
  · rintro ⟨h1, h2, h3⟩
    have hv := h.val x.1 h1
    unfold gAt at hv
    cases e : findK l (textB x.1) with
    | none =>
      rw [e] at hv
      exact absurd (h2.trans hv.symm) h3
    | some y =>
      rw [e] at hv
      have hm := find_mem e
      obtain ⟨k1, k2⟩ := h.key _ hm
      have ey : y.1 = x.1 := (textB_inj h1 k2 k1).symm
      have e2 : y = x := by
        have hv : y.2 = c x.1 := hv
        have : y.2 = x.2 := hv.trans h2.symm
        cases y; cases x; simp_all
      rw [e2] at hm
      exact List.mem_filter.2 ⟨List.mem_map.2 ⟨_, hm, rfl⟩, by simpa using h3⟩
/-! ### put in -/
structure SRep (ts : TermL) (c : List Int → Int) : Prop where
  sorted : SortedT ts
  mem : ∀ x, x ∈ ts ↔ smB x.1 ∧ x.2 = c x.1 ∧ x.2 ≠ 0
theorem SRep.nil : SRep [] fun _ => 0 := ⟨List.Pairwise.nil, fun x => ⟨(fun h => by cases h), fun h => absurd h.2.1 h.2.2⟩⟩
theorem GRep.sum {l : MapL} {ts : TermL} {c : List Int → Int} (h : GRep l c) (k : SRep ts c) : sortT (nzT l) = ts :=
  sortT_eq k.sorted (nzT_nodup h.words) fun x => (h.mem x).trans (k.mem x).symm
theorem at_mem : ∀ {ts : TermL} {x : List Int × Int}, SortedT ts → x ∈ ts → atT ts x.1 = x.2
  | y :: ts, x, hs, hx => by
    obtain ⟨h1, h2⟩ := List.pairwise_cons.1 hs
    rw [atT]
    rcases List.mem_cons.1 hx with rfl | hx
    · rw [if_pos rfl]
    · rw [if_neg (fun e => by have := h1 x hx; rw [e, before_irrefl] at this; cases this)]
      exact at_mem h2 hx
theorem at_none : ∀ {ts : TermL} {w : List Int}, (∀ x ∈ ts, x.1 ≠ w) → atT ts w = 0
  | [], _, _ => rfl
  | y :: ts, w, h => by
    rw [atT, if_neg (h y List.mem_cons_self)]
    exact at_none fun x hx => h x (List.mem_cons_of_mem _ hx)
theorem SRep.at {ts : TermL} {c : List Int → Int} (h : SRep ts c) {w : List Int} (hw : smB w) : atT ts w = c w := by
  by_cases e : c w = 0
  · rw [e]
    refine at_none fun x hx ex => ?_
    obtain ⟨_, h2, h3⟩ := (h.mem x).1 hx
    rw [ex, e] at h2
    exact h3 h2
  · exact at_mem (x := (w, c w)) h.sorted ((h.mem (w, c w)).2 ⟨hw, rfl, e⟩)
/-- A term in its place. -/
def insV (w : List Int) (v : Int) : TermL → TermL
  | [] => [(w, v)]
  | x :: r => if beforeB w x.1 = true then (w, v) :: (x :: r).filter (fun y => !decide (y.1 = w)) else if x.1 = w then insV w v r else x :: insV w v r
theorem foldT (w : List Int) (v : Int) : ∀ (ts acc : TermL), ts.foldl (fun s x => jB w (jA w v s x) x) (acc, true) = (acc ++ ts.filter (fun y => !decide (y.1 = w)), true)
  | [], acc => by simp
  | x :: r, acc => by
    rw [List.foldl_cons]
    have e : jB w (jA w v (acc, true) x) x = (acc ++ (if x.1 = w then [] else [x]), true) := by
      unfold jB jA
      simp only [Bool.not_true, Bool.false_and, Bool.false_eq_true, if_false]
      split <;> simp
    rw [e, foldT w v r]
    rw [List.filter_cons]
    by_cases h : x.1 = w
    · simp [h]
    · simp [h]
theorem foldF (w : List Int) (v : Int) : ∀ (ts acc : TermL), jE w v (ts.foldl (fun s x => jB w (jA w v s x) x) (acc, false)) = acc ++ insV w v ts
  | [], acc => by simp [jE, insV]
  | x :: r, acc => by
    rw [List.foldl_cons]
    by_cases h : beforeB w x.1 = true
    · have hne : ¬ x.1 = w := fun e => by rw [e, before_irrefl] at h; cases h
      have e : jB w (jA w v (acc, false) x) x = (acc ++ [(w, v)] ++ [x], true) := by
        unfold jB jA
        simp only [Bool.not_false, Bool.true_and, h, if_true, if_neg hne]
      rw [e, foldT, jE, if_pos rfl, insV, if_pos h, List.filter_cons]
      simp [hne]
    · by_cases h2 : x.1 = w
      · have e : jB w (jA w v (acc, false) x) x = (acc, false) := by
          unfold jB jA
          simp only [Bool.not_false, Bool.true_and, h, if_pos h2]
          rfl
        rw [e, foldF w v r, insV, if_neg h, if_pos h2]
      · have e : jB w (jA w v (acc, false) x) x = (acc ++ [x], false) := by
          unfold jB jA
          simp only [Bool.not_false, Bool.true_and, h, if_neg h2]
          rfl
        rw [e, foldF w v r, insV, if_neg h, if_neg h2]
        simp
theorem jT_ins (p : Int) (ts : TermL) (w : List Int) (v : Int) : jT p ts w v = if modI p (w64 (v + atT ts w)) = 0 then ts.filter (fun y => !decide (y.1 = w)) else insV w (modI p (w64 (v + atT ts w))) ts := by
  unfold jT jF
  generalize modI p (w64 (v + atT ts w)) = v'
  by_cases h : v' = 0
  · rw [if_pos h, decide_eq_true h, foldT, jE, if_pos rfl, List.nil_append]
  · rw [if_neg h, decide_eq_false h, foldF, List.nil_append]
theorem ins_mem {w : List Int} {v : Int} {y : List Int × Int} : ∀ {ts : TermL}, SortedT ts → (y ∈ insV w v ts ↔ y = (w, v) ∨ (y ∈ ts ∧ y.1 ≠ w))
  | [], _ => by simp [insV]
  | x :: r, hs => by
    obtain ⟨h1, h2⟩ := List.pairwise_cons.1 hs
    unfold insV
    split
    · simp
    · split
      · rename_i e
        rw [ins_mem h2, List.mem_cons]
        constructor
        · rintro (h | ⟨h, k⟩)
          · exact .inl h
          · exact .inr ⟨.inr h, k⟩
        · rintro (h | ⟨h | h, k⟩)
          · exact .inl h
          · exact absurd (h ▸ e) k
          · exact .inr ⟨h, k⟩
      · rename_i e
        rw [List.mem_cons, ins_mem h2, List.mem_cons]
        constructor
        · rintro (h | h | ⟨h, k⟩)
          · exact .inr ⟨.inl h, h ▸ e⟩
          · exact .inl h
          · exact .inr ⟨.inr h, k⟩
        · rintro (h | ⟨h | h, k⟩)
          · exact .inr (.inl h)
          · exact .inl h
          · exact .inr (.inr ⟨h, k⟩)
theorem ins_sorted {w : List Int} {v : Int} : ∀ {ts : TermL}, SortedT ts → SortedT (insV w v ts)
  | [], _ => List.pairwise_singleton ..
  | x :: r, hs => by
    obtain ⟨h1, h2⟩ := List.pairwise_cons.1 hs
    unfold insV
    split
    · rename_i h
      refine List.pairwise_cons.2 ⟨fun y hy => ?_, hs.filter _⟩
      rcases List.mem_cons.1 (List.mem_filter.1 hy).1 with rfl | hy
      · exact h
      · exact before_trans h (h1 y hy)
    · rename_i h
      split
      · exact ins_sorted h2
      · rename_i e
        refine List.pairwise_cons.2 ⟨fun y hy => ?_, ins_sorted h2⟩
        rcases (ins_mem h2).1 hy with rfl | ⟨hy, _⟩
        · exact before_of (by simpa using h) e
        · exact h1 y hy
theorem SRep.put {ts : TermL} {c : List Int → Int} (h : SRep ts c) (p : Int) {w : List Int} (hw : smB w) (v : Int) : SRep (jT p ts w v) (cAdd p c w v) := by
  rw [jT_ins, h.at hw, Int.add_comm v]
  by_cases e : modI p (w64 (c w + v)) = 0
  · rw [if_pos e]
    refine ⟨h.sorted.filter _, fun x => ?_⟩
    rw [List.mem_filter, h.mem]
    unfold cAdd
    constructor
    · rintro ⟨⟨k1, k2, k3⟩, k4⟩
      have k4 : x.1 ≠ w := by simpa using k4
      rw [if_neg k4]
      exact ⟨k1, k2, k3⟩
    · rintro ⟨k1, k2, k3⟩
      by_cases ew : x.1 = w
      · rw [if_pos ew, e] at k2
        exact absurd k2 k3
      · rw [if_neg ew] at k2
        exact ⟨⟨k1, k2, k3⟩, by simpa using ew⟩
  · rw [if_neg e]
    refine ⟨ins_sorted h.sorted, fun x => ?_⟩
    rw [ins_mem h.sorted, h.mem]
    unfold cAdd
    constructor
    · rintro (rfl | ⟨⟨k1, k2, k3⟩, k4⟩)
      · exact ⟨hw, by rw [if_pos rfl], e⟩
      · rw [if_neg k4]
        exact ⟨k1, k2, k3⟩
    · rintro ⟨k1, k2, k3⟩
      by_cases ew : x.1 = w
      · rw [if_pos ew] at k2
        refine .inl ?_
        cases x
        simp only at ew k2
        rw [ew, k2]
      · rw [if_neg ew] at k2
        exact .inr ⟨⟨k1, k2, k3⟩, ew⟩
end Go.Proofs.Ytokakggilajjlaa.V
