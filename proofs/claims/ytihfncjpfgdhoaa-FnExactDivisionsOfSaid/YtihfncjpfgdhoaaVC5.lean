/- Contracts: bits of a code, sums over twisted chords. Conditions: told by each spec. -/
import Derived.Test.YtihfncjpfgdhoaaVC4
set_option linter.unusedVariables false
set_option linter.unusedSimpArgs false
namespace Go.Proofs.Ytihfncjpfgdhoaa.V
open Go
def bit (c i : Nat) : Nat := c / 2 ^ i % 2
def popTo : Nat → Nat → Nat
  | 0, _ => 0
  | i + 1, c => popTo i c + bit c i
theorem bit_lt : ∀ c, c < 64 → ∀ i, i < 6 → andK .i64 (shrI .i64 (c : Nat) (i : Nat)) 1 = ((bit c i : Nat) : Int) := by decide +kernel
theorem pop_end : ∀ c, c < 64 → ∀ i, i < 7 → c / 2 ^ i = 0 → popTo i c = popTo 6 c := by decide +kernel
theorem pop_go : ∀ c, c < 64 → ∀ i, i < 7 → 0 < c / 2 ^ i → i < 6 := by decide +kernel
theorem pop_n : ∀ n, n < 7 → ∀ c, c < 64 → c < 2 ^ n → popTo n c = popTo 6 c := by decide +kernel
theorem pow_n : ∀ n, n < 7 → (2 ^ n ≤ 64 ∧ shlI .i64 1 (n : Nat) = ((2 ^ n : Nat) : Int)) := by decide +kernel
theorem pop_le : ∀ c, c < 64 → ∀ i, i < 7 → popTo i c ≤ i := by decide +kernel
theorem div_big : ∀ i, 6 ≤ i → 64 ≤ 2 ^ i := fun i hi => by
  have := Nat.pow_le_pow_right (n := 2) (by omega) hi
  simpa using this
theorem bit_all {c : Nat} (hc : c < 64) (i : Nat) : andK .i64 (shrI .i64 (c : Nat) (i : Nat)) 1 = ((bit c i : Nat) : Int) := by
  by_cases h : i < 6
  · exact bit_lt c hc i h
  · have e1 : bit c i = 0 := by
      unfold bit
      rw [Nat.div_eq_of_lt (Nat.lt_of_lt_of_le hc (div_big i (by omega)))]
    have e2 : shrI .i64 (c : Nat) (i : Nat) = 0 := by
      unfold shrI
      rw [Int.toNat_natCast]
      have hm : 6 ≤ min i IntKind.i64.bits := by
        have : IntKind.i64.bits = 64 := rfl
        omega
      generalize min i IntKind.i64.bits = m at *
      have := div_big m hm
      rw [Int.fdiv_eq_ediv_of_nonneg _ (by have : (0 : Int) ≤ ((2 ^ m : Nat) : Int) := Int.natCast_nonneg _; simpa using this)]
      have h2 : (c : Int) / ((2 ^ m : Nat) : Int) = ((c / 2 ^ m : Nat) : Int) := (Int.natCast_ediv ..).symm
      rw [Nat.div_eq_of_lt (Nat.lt_of_lt_of_le hc this)] at h2
      simpa using h2
    rw [e1, e2]; decide +kernel
def bitB (c i : Nat) : Bool := decide (bit c i = 1)
theorem bitB_eq (c i : Nat) : decide (((bit c i : Nat) : Int) = 1) = bitB c i := by
  unfold bitB
  by_cases h : bit c i = 1
  · rw [decide_eq_true h, decide_eq_true (by omega)]
  · rw [decide_eq_false h, decide_eq_false (by omega)]
theorem u64_lt : ∀ i, i < 64 → IntKind.u64.wrap ((i : Nat) : Int) = ((i : Nat) : Int) := by decide +kernel
/-! ### how many chords a code has -/
def sp_l05Size : List Cv → List Obj' → Tree
  | [.one (.v (.int .i64 c))], [] => .need (0 ≤ c ∧ c < 64) (.ret (vi (popTo 6 c.toNat : Nat)) [])
  | _, _ => .fail
set_option maxHeartbeats 4000000 in
set_option maxRecDepth 100000 in
theorem good_l05Size : Good Try.prog 93 sp_l05Size := by
  refine good_ofF Try.func93 rfl _ rfl _ rfl (tab []) (fun X cs os0 K hok hos hK => ?_)
  clear hos; unfold sp_l05Size at hK
  split at hK
  case h_2 => exact hK.elim
  rename_i c
  refine ⟨by simp, by simp, ?_⟩
  simp only [go_sem] at hK hok
  simp (maxSteps := 4000000) only [go_sem, Try.f93, ↓brB_t, ↓brB_f, Nat.reduceAdd, Int.reduceLE, Int.reduceLT, Int.reduceNeg, decide_true, decide_false, Bool.and_self, Nat.succ_eq_add_one, Int.toNat_natCast, Nat.beq_refl, Bool.and_true, Bool.true_and, Bool.false_or, Bool.or_true, List.all_cons, List.all_nil, Nat.reduceMul, Nat.add_zero, Nat.zero_add, List.length_nil, List.length_cons, dite_true, List.nil_append, Nat.reduceBEq, reduceDIte, reduceIte, reduceCtorEq, Bool.or_false, Bool.true_or, Bool.and_false, Bool.false_and, Bool.not_true, Bool.not_false, Option.isSome_some, Option.isSome_none, Option.getD_some, List.getElem?_cons_zero, List.getElem?_cons_succ, eq_self, and_self, List.take_succ_cons, List.take_zero, List.drop_succ_cons, List.drop_zero]
  obtain ⟨⟨h0, h1⟩, hK⟩ := hK
  clear hok
  obtain ⟨n, rfl⟩ : ∃ n : Nat, c = n := ⟨c.toNat, by omega⟩
  rw [Int.toNat_natCast] at hK
  refine loop_okF (T := tab []) [0, 3] [] (fun i : Nat => ⟨13, [(0, vi (n / 2 ^ i : Nat)), (3, vi (popTo i n : Nat))], []⟩)
    (fun i => i ≤ 6) (fun i => 6 - i) 0 rfl (by rw [Nat.pow_zero, Nat.div_one]; rfl) (by omega) (fun i hi => ?_)
  have A := pop_go n (by omega) i (by omega)
  have B := pop_end n (by omega) i (by omega)
  have hp := pop_le n (by omega) i (by omega)
  have hq2 : n / 2 ^ (i + 1) = n / 2 ^ i / 2 := by rw [Nat.pow_succ, Nat.div_div_eq_div_mul]
  have hb : popTo (i + 1) n = popTo i n + n / 2 ^ i % 2 := rfl
  have hql : n / 2 ^ i ≤ n := Nat.div_le_self _ _
  generalize hq : n / 2 ^ i = q at *
  simp only [go_sem, ↓brB_t, ↓brB_f, Nat.reduceAdd, Int.reduceLE, Int.reduceLT, Int.reduceNeg, decide_true, decide_false, Bool.and_self, Nat.succ_eq_add_one, Int.toNat_natCast, Nat.beq_refl, Bool.and_true, Bool.true_and, Bool.false_or, Bool.or_true, List.all_cons, List.all_nil, Nat.reduceMul, Nat.add_zero, Nat.zero_add, List.length_nil, List.length_cons, dite_true, List.nil_append, Nat.reduceBEq, reduceDIte, reduceIte, reduceCtorEq, Bool.or_false, Bool.true_or, Bool.and_false, Bool.false_and, Bool.not_true, Bool.not_false, Option.isSome_some, Option.isSome_none, Option.getD_some, List.getElem?_cons_zero, List.getElem?_cons_succ, eq_self, and_self, List.take_succ_cons, List.take_zero, List.drop_succ_cons, List.drop_zero]
  refine brB_intro (fun h2 => ?_) (fun h2 => ?_)
  · have h2 := of_decide_eq_true h2
    have hlt := A (by omega)
    rw [show ((q : Nat) : Int).tmod 2 = ((q % 2 : Nat) : Int) from tN q 2, half (n := q) (by omega), show w64 (((popTo i n : Nat) : Int) + ((q % 2 : Nat) : Int)) = ((popTo (i + 1) n : Nat) : Int) from wN (by rw [hb]; omega) (by omega)]
    refine ⟨by decide, by decide, i + 1, [], by omega, by omega, rfl, ?_⟩
    rw [hq2]; rfl
  · have h2 := of_decide_eq_false h2
    rw [← B (by omega)] at hK
    exact ret0 hK
def c_l05Size : Ctr Try.prog := ⟨93, ent Try.func93 rfl rfl, [], sp_l05Size, good_l05Size, []⟩
@[go_sem] theorem c_l05Size_f : c_l05Size.f = 93 := rfl
@[go_sem] theorem c_l05Size_ms : c_l05Size.ms = [] := rfl
@[go_sem] theorem c_l05Size_sp : c_l05Size.spec = sp_l05Size := rfl
@[go_sem] theorem c_l05Size_fz : c_l05Size.fz = [] := rfl
attribute [go_sem] sp_l05Size
/-- The chords that a code chooses. -/
def keepL (c n : Nat) : List Bool := (List.range n).map (bitB c)
theorem keep_s (c n : Nat) : keepL c (n + 1) = keepL c n ++ [bitB c n] := by
  rw [keepL, List.range_succ, List.map_append]; rfl
theorem keep_len (c n : Nat) : (keepL c n).length = n := by simp [keepL]
theorem keep_get {c n : Nat} (hn : n < 7) (hc : c < 2 ^ n) : (fun i => (keepL c n).getD i false) = bitB c := by
  funext i
  by_cases h : i < n
  · rw [List.getD_eq_getElem?_getD, List.getElem?_eq_getElem (by rw [keep_len]; exact h)]
    simp [keepL]
  · rw [List.getD_eq_getElem?_getD, List.getElem?_eq_none (by rw [keep_len]; omega)]
    have : 2 ^ n ≤ 2 ^ i := Nat.pow_le_pow_right (by omega) (by omega)
    rw [bitB, bit, Nat.div_eq_of_lt (by omega)]; rfl
def sp_l03Keep : List Cv → List Obj' → Tree
  | [.one (.v (.int .i64 c)), .one (.v (.int .i64 n))], [] => .need ((0 ≤ c ∧ c < 64) ∧ 0 ≤ n ∧ n ≤ 6) (.ret (ow 0) [rwb (keepL c.toNat n.toNat)])
  | _, _ => .fail
set_option maxHeartbeats 4000000 in
set_option maxRecDepth 100000 in
theorem good_l03Keep : Good Try.prog 94 sp_l03Keep := by
  refine good_ofF Try.func94 rfl _ rfl _ rfl (tab []) (fun X cs os0 K hok hos hK => ?_)
  clear hos; unfold sp_l03Keep at hK
  split at hK
  case h_2 => exact hK.elim
  rename_i c n
  refine ⟨by simp, by simp, ?_⟩
  simp only [go_sem] at hK hok
  simp (maxSteps := 4000000) only [go_sem, Try.f94, ↓brB_t, ↓brB_f, Nat.reduceAdd, Int.reduceLE, Int.reduceLT, Int.reduceNeg, decide_true, decide_false, Bool.and_self, Nat.succ_eq_add_one, Int.toNat_natCast, Nat.beq_refl, Bool.and_true, Bool.true_and, Bool.false_or, Bool.or_true, List.all_cons, List.all_nil, Nat.reduceMul, Nat.add_zero, Nat.zero_add, List.length_nil, List.length_cons, dite_true, List.nil_append, Nat.reduceBEq, reduceDIte, reduceIte, reduceCtorEq, Bool.or_false, Bool.true_or, Bool.and_false, Bool.false_and, Bool.not_true, Bool.not_false, Option.isSome_some, Option.isSome_none, Option.getD_some, List.getElem?_cons_zero, List.getElem?_cons_succ, eq_self, and_self, List.take_succ_cons, List.take_zero, List.drop_succ_cons, List.drop_zero]
  obtain ⟨⟨⟨h0, h1⟩, h2, h3⟩, hK⟩ := hK
  clear hok
  obtain ⟨c, rfl⟩ : ∃ m : Nat, c = m := ⟨c.toNat, by omega⟩
  obtain ⟨n, rfl⟩ : ∃ m : Nat, n = m := ⟨n.toNat, by omega⟩
  rw [Int.toNat_natCast, Int.toNat_natCast] at hK
  refine loop_okF (T := tab []) [0, 1, 5, 6] [(16, 128)] (fun i : Nat => ⟨23, [(0, vi c), (1, vi n), (5, ow 16), (6, vi i)], [(16, rwb (keepL c i))]⟩)
    (fun i => i ≤ n) (fun i => n - i) 0 rfl rfl (Nat.zero_le _) (fun i hi => ?_)
  have hkl := keep_len c i
  simp only [go_sem, ↓brB_t, ↓brB_f, Nat.reduceAdd, Int.reduceLE, Int.reduceLT, Int.reduceNeg, decide_true, decide_false, Bool.and_self, Nat.succ_eq_add_one, Int.toNat_natCast, Nat.beq_refl, Bool.and_true, Bool.true_and, Bool.false_or, Bool.or_true, List.all_cons, List.all_nil, Nat.reduceMul, Nat.add_zero, Nat.zero_add, List.length_nil, List.length_cons, dite_true, List.nil_append, Nat.reduceBEq, reduceDIte, reduceIte, reduceCtorEq, Bool.or_false, Bool.true_or, Bool.and_false, Bool.false_and, Bool.not_true, Bool.not_false, Option.isSome_some, Option.isSome_none, Option.getD_some, List.getElem?_cons_zero, List.getElem?_cons_succ, eq_self, and_self, List.take_succ_cons, List.take_zero, List.drop_succ_cons, List.drop_zero]
  refine brB_intro (fun h4 => ?_) (fun h4 => ?_)
  · have h4 := of_decide_eq_true h4
    have hb := bit_all (c := c) (by omega) i
    rw [u64_lt i (by omega), hb, bitB_eq, ← keep_s, show w64 ((i : Int) + 1) = ((i + 1 : Nat) : Int) from wN (by omega) (by omega)]
    exact ⟨trivial, by omega, i + 1, [(16, 352)], by omega, by omega, rfl, rfl⟩
  · have h4 := of_decide_eq_false h4
    have e : i = n := by omega
    subst e
    exact retN [16] rfl hK
def c_l03Keep : Ctr Try.prog := ⟨94, ent Try.func94 rfl rfl, [], sp_l03Keep, good_l03Keep, []⟩
@[go_sem] theorem c_l03Keep_f : c_l03Keep.f = 94 := rfl
@[go_sem] theorem c_l03Keep_ms : c_l03Keep.ms = [] := rfl
@[go_sem] theorem c_l03Keep_sp : c_l03Keep.spec = sp_l03Keep := rfl
@[go_sem] theorem c_l03Keep_fz : c_l03Keep.fz = [] := rfl
attribute [go_sem] sp_l03Keep
/-! ### sums over codes -/
def accL (M : Nat) (cs : Nat → Nat) (val : Nat → Int) : Nat → List Int
  | 0 => List.replicate M 0
  | c + 1 => (accL M cs val c).set (cs c) ((accL M cs val c).getD (cs c) 0 + val c)
theorem acc_len (M : Nat) (cs : Nat → Nat) (val : Nat → Int) : ∀ c, (accL M cs val c).length = M
  | 0 => by simp [accL]
  | c + 1 => by rw [accL, List.length_set, acc_len M cs val c]
theorem acc_get {M : Nat} {cs : Nat → Nat} {val : Nat → Int} {c : Nat} (h : cs c < M) (j : Nat) : (accL M cs val (c + 1)).getD j 0 = (accL M cs val c).getD j 0 + if j = cs c then val c else 0 := by
  rw [accL, gD_set _ _ _ _ _ (by rw [acc_len]; exact h)]
  split
  · rename_i e; rw [e]
  · rw [Int.add_zero]
theorem acc_abs {M : Nat} {cs : Nat → Nat} {val : Nat → Int} (hv : ∀ c, -1 ≤ val c ∧ val c ≤ 1) (hc : ∀ c, cs c < M) : ∀ (c j : Nat), -(c : Int) ≤ (accL M cs val c).getD j 0 ∧ (accL M cs val c).getD j 0 ≤ (c : Int)
  | 0, j => by rw [accL, gD_rep]; omega
  | c + 1, j => by
    rw [acc_get (hc c)]
    have h1 := acc_abs hv hc c j
    have h2 := hv c
    split <;> omega
/-- One more power on a list that is trimmed. -/
theorem plus_pow {f : List Int} {n : Nat} {k : Int} (g : List Int) (hg : ∀ j, g.getD j 0 = f.getD j 0 + if j = n then k else 0) : trimL (plusL (trimL f) (powL n) k) = trimL g := by
  refine trim_eq fun i => ?_
  rw [plusL_get, trim_get, hg, powL_get]
  split <;> simp
def sgn2 (c : Nat) : Int := 1 - 2 * ((popTo 6 c % 2 : Nat) : Int)
theorem sgn2_abs (c : Nat) : -1 ≤ sgn2 c ∧ sgn2 c ≤ 1 := by unfold sgn2; omega
def soL (w : List Int) (c : Nat) : List Int := accL (w.length / 2 + 2) (fun c => circ w (bitB c)) sgn2 c
/-! ### the sum over twisted chords -/
def twF (ys : HC [.d (.int .i64)]) (xs : HT [Kn.int .i64]) : Option Bool := if 0 ≤ xs.1 then some (decide (andK .i64 (shrI .i64 ys.1 xs.1) 1 = 1)) else none
def p_tw : PFn Try.prog := ⟨133, entB Try.func133 rfl rfl, [.d (.int .i64)], [.int .i64], .bool, twF, sp_tw1, good_tw1, fun ys xs y h K hK => by
  unfold twF at h
  split at h
  · rename_i hc
    injection h with h; subst h
    exact ⟨hc, hK⟩
  · cases h⟩
@[go_sem] theorem p_tw_f : p_tw.f = 133 := rfl
@[go_sem] theorem p_tw_caps (args : List Rv) : (capsM p_tw.cks args fun ys => .ret (.val (.one (.pf p_tw.ks p_tw.r (p_tw.g ys))))) = capsM [.d (.int .i64)] args fun ys => .ret (.val (.one (.pf [.int .i64] .bool (twF ys)))) := rfl
theorem tw_eq {c : Nat} (hc : c < 64) : (fun i : Nat => tst (twF (((c : Nat) : Int), ())) (i : Int)) = bitB c := by
  funext i
  show (twF (((c : Nat) : Int), ()) (((i : Nat) : Int), ())).getD false = _
  unfold twF
  rw [if_pos (by show (0 : Int) ≤ ((i : Nat) : Int); omega)]
  show decide (andK .i64 (shrI .i64 ((c : Nat) : Int) ((i : Nat) : Int)) 1 = 1) = _
  rw [bit_all hc, bitB_eq]
theorem tw_some (c : Int) (i : Nat) : (twF (c, ()) (((i : Nat) : Int), ())).isSome = true := by
  unfold twF
  rw [if_pos (by show (0 : Int) ≤ ((i : Nat) : Int); omega)]; rfl
def sp_twistSum : List Cv → List Obj' → Tree
  | [.one (.ro (.int .i64) w), .one (.pf [.int .i64] (.int .i64) g)], [] => .need (isW w = true ∧ ∀ m : Nat, m ≤ 6 → g (((m : Nat) : Int), ()) = some (1 - 2 * ((m % 2 : Nat) : Int))) (.ret (ow 0) [rwi (soL w (2 ^ (w.length / 2)))])
  | _, _ => .fail
set_option maxHeartbeats 4000000 in
set_option maxRecDepth 100000 in
theorem good_twistSum : Good Try.prog 118 sp_twistSum := by
  refine good_ofF Try.func118 rfl _ rfl _ rfl (tab [c_chords, c_circlesI, c_weights] [] [p_tw]) (fun X cs os0 K hok hos hK => ?_)
  clear hos; unfold sp_twistSum at hK
  split at hK
  case h_2 => exact hK.elim
  rename_i w g
  refine ⟨by simp, by simp, ?_⟩
  simp only [go_sem] at hK hok
  simp (maxSteps := 4000000) only [go_sem, Try.f118, ↓brB_t, ↓brB_f, Nat.reduceAdd, Int.reduceLE, Int.reduceLT, Int.reduceNeg, decide_true, decide_false, Bool.and_self, Nat.succ_eq_add_one, Int.toNat_natCast, Nat.beq_refl, Bool.and_true, Bool.true_and, Bool.false_or, Bool.or_true, List.all_cons, List.all_nil, Nat.reduceMul, Nat.add_zero, Nat.zero_add, List.length_nil, List.length_cons, dite_true, List.nil_append, Nat.reduceBEq, reduceDIte, reduceIte, reduceCtorEq, Bool.or_false, Bool.true_or, Bool.and_false, Bool.false_and, Bool.not_true, Bool.not_false, Option.isSome_some, Option.isSome_none, Option.getD_some, List.getElem?_cons_zero, List.getElem?_cons_succ, eq_self, and_self, List.take_succ_cons, List.take_zero, List.drop_succ_cons, List.drop_zero]
  obtain ⟨⟨hw, hg⟩, hK⟩ := hK
  clear hok
  obtain ⟨w1, w2⟩ := Go.Proofs.Ytihfncjpfgdhoaa.L.word_range hw
  obtain ⟨n, hW⟩ := Go.Proofs.Ytihfncjpfgdhoaa.L.word_of w hw
  have hn := hW.len
  have hn2 : w.length / 2 = n := by omega
  rw [hn2] at hK
  rw [hn2, show w64 ((n : Int) + 2) = ((n + 2 : Nat) : Int) from wN (by omega) (by omega)]
  have hpn := pow_n n (by omega)
  rw [hpn.2]
  refine ⟨⟨by omega, by omega, trivial⟩, by omega, ?_⟩
  rw [Int.toNat_natCast]
  have hcl := fun c => circ_le hW (bitB c)
  have habs := acc_abs (M := n + 2) (cs := fun c => circ w (bitB c)) (val := sgn2) sgn2_abs (fun c => by have := hcl c; show circ w (bitB c) < n + 2; omega)
  have hsl : ∀ c, soL w c = accL (n + 2) (fun c => circ w (bitB c)) sgn2 c := fun c => by rw [soL, hn2]
  have h64 := hpn.1
  clear hpn
  generalize hQ : 2 ^ n = Q at *
  refine loop_okF (T := tab [c_chords, c_circlesI, c_weights] [] [p_tw]) [0, 1, 5, 15, 16] [(16, 208)] (fun c : Nat => ⟨41, [(0, ri w), (1, .val (.one (.pf [.int .i64] (.int .i64) g))), (5, ow 16), (15, vi Q), (16, vi c)], [(16, rwi (soL w c))]⟩)
    (fun c => c ≤ Q) (fun c => Q - c) 0 rfl (by rw [hsl]; rfl) (Nat.zero_le _) (fun c hc => ?_)
  simp only [go_sem, ↓brB_t, ↓brB_f, Nat.reduceAdd, Int.reduceLE, Int.reduceLT, Int.reduceNeg, decide_true, decide_false, Bool.and_self, Nat.succ_eq_add_one, Int.toNat_natCast, Nat.beq_refl, Bool.and_true, Bool.true_and, Bool.false_or, Bool.or_true, List.all_cons, List.all_nil, Nat.reduceMul, Nat.add_zero, Nat.zero_add, List.length_nil, List.length_cons, dite_true, List.nil_append, Nat.reduceBEq, reduceDIte, reduceIte, reduceCtorEq, Bool.or_false, Bool.true_or, Bool.and_false, Bool.false_and, Bool.not_true, Bool.not_false, Option.isSome_some, Option.isSome_none, Option.getD_some, List.getElem?_cons_zero, List.getElem?_cons_succ, eq_self, and_self, List.take_succ_cons, List.take_zero, List.drop_succ_cons, List.drop_zero]
  refine brB_intro (fun h1 => ?_) (fun h1 => ?_)
  · have h1 := of_decide_eq_true h1
    refine loop_okF (T := tab [c_chords, c_circlesI, c_weights] [] [p_tw]) [0, 1, 5, 6, 7, 15, 16, 20, 21] [(16, 16), (17, 112)] (fun i : Nat => ⟨41, [(0, ri w), (1, .val (.one (.pf [.int .i64] (.int .i64) g))), (5, ow 16), (6, .val (.one (.ptr 17 0))), (7, vi (popTo i c : Nat)), (15, vi Q), (16, vi c), (20, vi (w.length / 2 : Nat)), (21, vi i)], [(16, rwi (soL w c)), (17, .box 2 [.v (.int .i64 c)])]⟩)
      (fun i => i ≤ n) (fun i => n - i) 0 rfl rfl (Nat.zero_le _) (fun i hi => ?_)
    have hp := pop_le c (by omega) i (by omega)
    simp only [go_sem, ↓brB_t, ↓brB_f, Nat.reduceAdd, Int.reduceLE, Int.reduceLT, Int.reduceNeg, decide_true, decide_false, Bool.and_self, Nat.succ_eq_add_one, Int.toNat_natCast, Nat.beq_refl, Bool.and_true, Bool.true_and, Bool.false_or, Bool.or_true, List.all_cons, List.all_nil, Nat.reduceMul, Nat.add_zero, Nat.zero_add, List.length_nil, List.length_cons, dite_true, List.nil_append, Nat.reduceBEq, reduceDIte, reduceIte, reduceCtorEq, Bool.or_false, Bool.true_or, Bool.and_false, Bool.false_and, Bool.not_true, Bool.not_false, Option.isSome_some, Option.isSome_none, Option.getD_some, List.getElem?_cons_zero, List.getElem?_cons_succ, eq_self, and_self, List.take_succ_cons, List.take_zero, List.drop_succ_cons, List.drop_zero]
    refine brB_intro (fun h2 => ?_) (fun h2 => ?_)
    · have h2 := of_decide_eq_true h2
      have hb := bit_all (c := c) (by omega) i
      have hbl : bit c i < 2 := Nat.mod_lt _ (by omega)
      rw [hb, show w64 (((popTo i c : Nat) : Int) + ((bit c i : Nat) : Int)) = ((popTo (i + 1) c : Nat) : Int) from wN (by rw [popTo]; omega) (by rw [popTo]; omega), show w64 ((i : Int) + 1) = ((i + 1 : Nat) : Int) from wN (by omega) (by omega)]
      exact ⟨by omega, i + 1, [(16, 16), (17, 17)], by omega, by omega, rfl, rfl⟩
    · have h2 := of_decide_eq_false h2
      have e : i = n := by omega
      subst e
      have hpn := pop_n i (by omega) c (by omega) (by omega)
      have hgp := hg (popTo i c) (by omega)
      have hsv : 1 - 2 * ((popTo i c % 2 : Nat) : Int) = sgn2 c := by rw [hpn]; rfl
      have hs1 : soL w (c + 1) = (soL w c).set (circ w (bitB c)) ((soL w c).getD (circ w (bitB c)) 0 + sgn2 c) := by rw [hsl, hsl]; rfl
      have hlen : (soL w c).length = i + 2 := by rw [hsl, acc_len]
      have hab := habs c (circ w (bitB c))
      rw [← hsl c] at hab
      have hcc := hcl c
      have hsg := sgn2_abs c
      rw [tw_eq (by omega), hgp, hsv]
      simp only [Option.getD_some, Option.isSome_some]
      rw [hlen, ← hs1, show w64 ((c : Int) + 1) = ((c + 1 : Nat) : Int) from wN (by omega) (by omega)]
      refine ⟨⟨hw, fun i _ => tw_some _ i⟩, trivial, ⟨⟨by omega, by omega⟩, ⟨Int.le_trans (show (-1048576 : Int) ≤ -(c : Int) by omega) hab.1, Int.le_trans hab.2 (show (c : Int) ≤ 1048576 by omega)⟩, by omega, by omega⟩, c + 1, [(16, 16)], by omega, by omega, rfl, rfl⟩
  · have h1 := of_decide_eq_false h1
    have e : c = Q := by omega
    subst e
    exact retN [16] rfl hK
def c_twistSum : Ctr Try.prog := ⟨118, ent Try.func118 rfl rfl, [], sp_twistSum, good_twistSum, []⟩
@[go_sem] theorem c_twistSum_f : c_twistSum.f = 118 := rfl
@[go_sem] theorem c_twistSum_ms : c_twistSum.ms = [] := rfl
@[go_sem] theorem c_twistSum_sp : c_twistSum.spec = sp_twistSum := rfl
@[go_sem] theorem c_twistSum_fz : c_twistSum.fz = [] := rfl
attribute [go_sem] sp_twistSum
/-! ### the reference's sum -/
def sp_l05W1 : List Cv → List Obj' → Tree
  | [.one (.ro (.int .i64) w), .one (.v (.int .i64 k))], [] => .need (isW w = true ∧ k = 1) (.ret (ow 0) [rwi (trimL (soL w (2 ^ (w.length / 2))))])
  | _, _ => .fail
set_option maxHeartbeats 4000000 in
set_option maxRecDepth 100000 in
theorem good_l05W1 : Good Try.prog 86 sp_l05W1 := by
  refine good_ofF Try.func86 rfl _ rfl _ rfl (tab [c_l05Power, c_circlesS, c_l03Keep, c_l05Size, c_l05Plus]) (fun X cs os0 K hok hos hK => ?_)
  clear hos; unfold sp_l05W1 at hK
  split at hK
  case h_2 => exact hK.elim
  rename_i w k
  refine ⟨by simp, by simp, ?_⟩
  simp only [go_sem] at hK hok
  simp (maxSteps := 4000000) only [go_sem, Try.f86, ↓brB_t, ↓brB_f, Nat.reduceAdd, Int.reduceLE, Int.reduceLT, Int.reduceNeg, decide_true, decide_false, Bool.and_self, Nat.succ_eq_add_one, Int.toNat_natCast, Nat.beq_refl, Bool.and_true, Bool.true_and, Bool.false_or, Bool.or_true, List.all_cons, List.all_nil, Nat.reduceMul, Nat.add_zero, Nat.zero_add, List.length_nil, List.length_cons, dite_true, List.nil_append, Nat.reduceBEq, reduceDIte, reduceIte, reduceCtorEq, Bool.or_false, Bool.true_or, Bool.and_false, Bool.false_and, Bool.not_true, Bool.not_false, Option.isSome_some, Option.isSome_none, Option.getD_some, List.getElem?_cons_zero, List.getElem?_cons_succ, eq_self, and_self, List.take_succ_cons, List.take_zero, List.drop_succ_cons, List.drop_zero]
  obtain ⟨⟨hw, rfl⟩, hK⟩ := hK
  clear hok
  obtain ⟨w1, w2⟩ := Go.Proofs.Ytihfncjpfgdhoaa.L.word_range hw
  obtain ⟨n, hW⟩ := Go.Proofs.Ytihfncjpfgdhoaa.L.word_of w hw
  have hn := hW.len
  have hn2 : w.length / 2 = n := by omega
  rw [hn2] at hK
  have hpn := pow_n n (by omega)
  have h0 : trimL (soL w 0) = [] := trim_eq (g := []) fun i => by rw [soL, accL, gD_rep]; rfl
  have hcl := fun c => circ_le hW (bitB c)
  have hcp := fun c => circ_pos w (bitB c)
  have habs := acc_abs (M := n + 2) (cs := fun c => circ w (bitB c)) (val := sgn2) sgn2_abs (fun c => by have := hcl c; show circ w (bitB c) < n + 2; omega)
  have hsl : ∀ c, soL w c = accL (n + 2) (fun c => circ w (bitB c)) sgn2 c := fun c => by rw [soL, hn2]
  have h64 := hpn.1
  refine ⟨by decide, trivial, brB_intro (fun h => absurd h (by decide)) (fun _ => brB_intro (fun _ => ?_) (fun h => absurd h (by decide)))⟩
  rw [half (by omega), hn2, u64_lt n (by omega), hpn.2]
  clear hpn
  refine loop_okF (T := tab [c_l05Power, c_circlesS, c_l03Keep, c_l05Size, c_l05Plus]) [0, 5, 6, 7, 8] [(16, 256)] (fun c : Nat => ⟨86, [(0, ri w), (5, vi n), (6, ow 16), (7, vi (2 ^ n : Nat)), (8, vi c)], [(16, rwi (trimL (soL w c)))]⟩)
    (fun c => c ≤ 2 ^ n) (fun c => 2 ^ n - c) 0 rfl (by rw [h0]; rfl) (Nat.zero_le _) (fun c hc => ?_)
  simp only [go_sem, ↓brB_t, ↓brB_f, Nat.reduceAdd, Int.reduceLE, Int.reduceLT, Int.reduceNeg, decide_true, decide_false, Bool.and_self, Nat.succ_eq_add_one, Int.toNat_natCast, Nat.beq_refl, Bool.and_true, Bool.true_and, Bool.false_or, Bool.or_true, List.all_cons, List.all_nil, Nat.reduceMul, Nat.add_zero, Nat.zero_add, List.length_nil, List.length_cons, dite_true, List.nil_append, Nat.reduceBEq, reduceDIte, reduceIte, reduceCtorEq, Bool.or_false, Bool.true_or, Bool.and_false, Bool.false_and, Bool.not_true, Bool.not_false, Option.isSome_some, Option.isSome_none, Option.getD_some, List.getElem?_cons_zero, List.getElem?_cons_succ, eq_self, and_self, List.take_succ_cons, List.take_zero, List.drop_succ_cons, List.drop_zero]
  refine brB_intro (fun h1 => ?_) (fun h1 => ?_)
  · have h1 := of_decide_eq_true h1
    have hkg := keep_get (c := c) (n := n) (by omega) (by omega)
    have hkl := keep_len c n
    have hsv : w64 (1 - w64 (2 * ((popTo 6 c : Nat) : Int).tmod 2)) = sgn2 c := by
      rw [show ((popTo 6 c : Nat) : Int).tmod 2 = ((popTo 6 c % 2 : Nat) : Int) from tN (popTo 6 c) 2, w64_id (x := 2 * ((popTo 6 c % 2 : Nat) : Int)) (by omega) (by omega), w64_id (by omega) (by omega)]; rfl
    have hcc := hcl c
    have hsg := sgn2_abs c
    have hpp : trimL (plusL (trimL (soL w c)) (powL (circ w (bitB c))) (sgn2 c)) = trimL (soL w (c + 1)) := plus_pow _ fun j => by
      rw [hsl, hsl]
      exact acc_get (M := n + 2) (cs := fun c => circ w (bitB c)) (val := sgn2) (by show circ w (bitB c) < n + 2; omega) j
    have hsz := acc_len (n + 2) (fun c => circ w (bitB c)) sgn2 c
    have htl := trim_len (soL w c)
    rw [hsl c, hsz] at htl
    rw [hkg, hsv, hpp, show w64 ((c : Int) + 1) = ((c + 1 : Nat) : Int) from wN (by omega) (by omega), hn2]
    refine ⟨⟨⟨by omega, by omega⟩, by omega, by omega⟩, ⟨hw, by omega⟩, ⟨⟨by omega, by omega⟩, trivial⟩, ⟨by omega, by omega⟩, by decide, ⟨⟨by rw [hsl c]; omega, ?_⟩, fun i => ?_, fun i => ?_⟩, c + 1, [(16, 848)], by omega, by omega, rfl, rfl⟩
    · rw [powL, List.length_append, List.length_replicate]; show circ w (bitB c) + 1 ≤ _; omega
    · have hab := habs c i
      rw [trim_get, hsl c]
      exact ⟨Int.le_trans (show (-1048576 : Int) ≤ -(c : Int) by omega) hab.1, Int.le_trans hab.2 (show (c : Int) ≤ 1048576 by omega)⟩
    · rw [powL_get]
      split
      · rw [Int.mul_one]; omega
      · rw [Int.mul_zero]; omega
  · have h1 := of_decide_eq_false h1
    have e : c = 2 ^ n := by omega
    subst e
    exact retN [16] rfl hK
def c_l05W1 : Ctr Try.prog := ⟨86, ent Try.func86 rfl rfl, [], sp_l05W1, good_l05W1, []⟩
@[go_sem] theorem c_l05W1_f : c_l05W1.f = 86 := rfl
@[go_sem] theorem c_l05W1_ms : c_l05W1.ms = [] := rfl
@[go_sem] theorem c_l05W1_sp : c_l05W1.spec = sp_l05W1 := rfl
@[go_sem] theorem c_l05W1_fz : c_l05W1.fz = [] := rfl
attribute [go_sem] sp_l05W1
end Go.Proofs.Ytihfncjpfgdhoaa.V
