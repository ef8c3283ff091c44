/- The library's sort of terms: its functions are those that the library's own texts tell of. Conditions: none. The comparison of words, told to the world: what it allocates lies behind all that was there. Conditions: the rows can be read. The order of words: strict, whole; lists of terms in that order are told by what is in them. Conditions: none. Contract: the library's sort of terms by the order of their words. Conditions: told by its spec. Contract: the library's sort of terms by the order of their words. Conditions: told by its spec. -/
import Derived.Test.YtokakggilajjlaaProg
import Derived.Shelf.SlSortCmp.NoneTotal
import Derived.Test.YtokakggilajjlaaVS4
import Derived.Sort.Grow
import Derived.Test.YtokakggilajjlaaPO
import Derived.Test.YtokakggilajjlaaVB
set_option linter.unusedVariables false
namespace Go.Proofs.Ytokakggilajjlaa.V
open Go Go.Shelf Go.Proofs
def sortF_ren : Go.Shelf.Ren := ⟨fun | 6 => 163 | 15 => 156 | 14 => 203 | 28 => 194 | 29 => 195 | 20 => 225 | 21 => 226 | 22 => 227 | 23 => 228 | 24 => 229 | 25 => 230 | 26 => 231 | 27 => 232 | 46 => 247 | 47 => 216 | 48 => 217 | 49 => 248 | 50 => 249 | 57 => 255 | n => n, fun | 22 => 26 | 24 => 68 | 25 => 156 | 3 => 3 | 39 => 149 | 0 => 0 | 53 => 184 | 55 => 132 | 4 => 4 | 46 => 176 | 45 => 175 | 50 => 181 | 5 => 5 | 9 => 9 | 66 => 197 | 70 => 201 | 76 => 214 | 77 => 129 | n => n, fun | n => n⟩
theorem sortF : Go.Proofs.SlLaysF0.n6 Try.prog sortF_ren := {
  mixed := by kernel_rfl,
  f6 := ⟨Try.f163.name, by decide, Try.func163.trans (congrArg some (by kernel_rfl))⟩,
  f14 := ⟨Try.f203.name, by decide, Try.func203.trans (congrArg some (by kernel_rfl))⟩,
  f15 := Try.func156.trans (congrArg some (by kernel_rfl)),
  f20 := ⟨Try.f225.name, by decide, Try.func225.trans (congrArg some (by kernel_rfl))⟩,
  f21 := ⟨Try.f226.name, by decide, Try.func226.trans (congrArg some (by kernel_rfl))⟩,
  f22 := ⟨Try.f227.name, by decide, Try.func227.trans (congrArg some (by kernel_rfl))⟩,
  f23 := ⟨Try.f228.name, by decide, Try.func228.trans (congrArg some (by kernel_rfl))⟩,
  f24 := ⟨Try.f229.name, by decide, Try.func229.trans (congrArg some (by kernel_rfl))⟩,
  f25 := ⟨Try.f230.name, by decide, Try.func230.trans (congrArg some (by kernel_rfl))⟩,
  f26 := ⟨Try.f231.name, by decide, Try.func231.trans (congrArg some (by kernel_rfl))⟩,
  f27 := ⟨Try.f232.name, by decide, Try.func232.trans (congrArg some (by kernel_rfl))⟩,
  f28 := Try.func194.trans (congrArg some (by kernel_rfl)),
  f29 := Try.func195.trans (congrArg some (by kernel_rfl)),
  f46 := ⟨Try.f247.name, by decide, Try.func247.trans (congrArg some (by kernel_rfl))⟩,
  f47 := Try.func216.trans (congrArg some (by kernel_rfl)),
  f48 := Try.func217.trans (congrArg some (by kernel_rfl)),
  f49 := ⟨Try.f248.name, by decide, Try.func248.trans (congrArg some (by kernel_rfl))⟩,
  f50 := ⟨Try.f249.name, by decide, Try.func249.trans (congrArg some (by kernel_rfl))⟩,
  f57 := ⟨Try.f255.name, by decide, Try.func255.trans (congrArg some (by kernel_rfl))⟩,
  t0 := Try.underlying0,
  a0 := Try.isAgg0,
  z0 := Try.sizeOf0,
  v0 := Try.zeroValue0,
  t3 := Try.underlying3,
  a3 := Try.isAgg3,
  z3 := Try.sizeOf3,
  v3 := Try.zeroValue3,
  t4 := Try.underlying4,
  a4 := Try.isAgg4,
  z4 := Try.sizeOf4,
  v4 := Try.zeroValue4,
  t5 := Try.underlying5,
  a5 := Try.isAgg5,
  z5 := Try.sizeOf5,
  v5 := Try.zeroValue5,
  t9 := Try.underlying9,
  a9 := Try.isAgg9,
  z9 := Try.sizeOf9,
  v9 := Try.zeroValue9,
  t22 := Try.underlying26,
  a22 := Try.isAgg26,
  z22 := Try.sizeOf26,
  v22 := Try.zeroValue26,
  t25 := Try.underlying156,
  a25 := Try.isAgg156,
  z25 := Try.sizeOf156,
  v25 := Try.zeroValue156,
  t39 := Try.underlying149,
  a39 := Try.isAgg149,
  z39 := Try.sizeOf149,
  v39 := Try.zeroValue149,
  t45 := Try.underlying175,
  a45 := Try.isAgg175,
  z45 := Try.sizeOf175,
  v45 := Try.zeroValue175,
  t46 := Try.underlying176,
  a46 := Try.isAgg176,
  z46 := Try.sizeOf176,
  v46 := Try.zeroValue176,
  t50 := Try.underlying181,
  a50 := Try.isAgg181,
  z50 := Try.sizeOf181,
  v50 := Try.zeroValue181,
  t53 := Try.underlying184,
  a53 := Try.isAgg184,
  z53 := Try.sizeOf184,
  v53 := Try.zeroValue184,
  t55 := Try.underlying132,
  a55 := Try.isAgg132,
  z55 := Try.sizeOf132,
  v55 := Try.zeroValue132,
  t66 := Try.underlying197,
  a66 := Try.isAgg197,
  z66 := Try.sizeOf197,
  v66 := Try.zeroValue197,
  t70 := Try.underlying201,
  a70 := Try.isAgg201,
  z70 := Try.sizeOf201,
  v70 := Try.zeroValue201,
  t76 := Try.underlying214,
  a76 := Try.isAgg214,
  z76 := Try.sizeOf214,
  v76 := Try.zeroValue214,
  t77 := Try.underlying129,
  a77 := Try.isAgg129,
  z77 := Try.sizeOf129,
  v77 := Try.zeroValue129 }
end Go.Proofs.Ytokakggilajjlaa.V

set_option linter.unusedVariables false
set_option linter.unusedSimpArgs false
namespace Go.Proofs.Ytokakggilajjlaa.V
open Go Go.RowKit Go.Proofs.YtokakggilajjlaaW.PrintWords Go.Proofs.YtokakggilajjlaaW.PrintLast Go.Proofs.YtokakggilajjlaaW.PrintMore Go.Proofs.Ytokakggilajjlaa.PO
theorem cc64 (x y : Int) : cmp_Compare_int64.f x y = some (cmpI x y) := by
  simp only [cmp_Compare_int64.f, cmp_isNaN_int64.f, bne_self_eq_false, Option.bind_some, cmpI, Bool.false_eq_true, if_false]
  split
  · rfl
  · split <;> (first | rfl | (split <;> first | rfl | omega))
theorem cc (x y : Int) : cmp_Compare_int.f x y = some (cmpI x y) := by
  simp only [cmp_Compare_int.f, cmp_isNaN_int.f, bne_self_eq_false, Option.bind_some, cmpI, Bool.false_eq_true, if_false]
  split
  · rfl
  · split <;> (first | rfl | (split <;> first | rfl | omega))
theorem cS_l0 (a b : List Int) (ha : a.length ≤ 1099511627776) : ∀ (k i : Nat), i ≤ a.length → i ≤ b.length → a.length - i < k → slices_Compare_int64_int64.l0 k a b a (a.length : Int) (i : Int) = some (cmpL (a.drop i) (b.drop i))
  | 0, i, _, _, h => by omega
  | k + 1, i, hi, hb, h => by
    unfold slices_Compare_int64_int64.l0
    by_cases h1 : i < a.length
    · rw [if_pos (by omega), if_pos (by omega), if_pos (by omega)]
      by_cases h2 : i < b.length
      · rw [if_neg (by omega), if_pos (by omega), cc64, Option.bind_some, cmpL_s h1 h2]
        have e : wrap64 ((i : Int) + 1) = ((i + 1 : Nat) : Int) := by
          unfold wrap64; omega
        rw [e, cS_l0 a b ha k (i + 1) (by omega) (by omega) (by omega)]
        have e1 : rd a (i : Int) = a.getD i 0 := rfl
        have e2 : rd b (i : Int) = b.getD i 0 := rfl
        rw [e1, e2]
        split <;> rfl
      · rw [if_pos (by omega), cmpL_e h1 h2]
    · rw [if_neg (by omega), cmpL_0 h1]
      by_cases h2 : i < b.length
      · rw [if_pos (by omega), if_pos h2]
      · rw [if_neg (by omega), if_neg h2]
theorem cS (a b : List Int) (ha : a.length ≤ 1099511627776) : slices_Compare_int64_int64.f (a.length + 1) a b = some (cmpL a b) := by
  have := cS_l0 a b ha (a.length + 1) 0 (Nat.zero_le _) (Nat.zero_le _) (by omega)
  simpa [slices_Compare_int64_int64.f] using this
theorem cO (x y : Int) : cmp_Or_int.f 3 [x, y] = some (orL [x, y]) := by
  have e1 : wrap64 (0 + 1) = 1 := by unfold wrap64; omega
  have e2 : wrap64 (1 + 1) = 2 := by unfold wrap64; omega
  simp only [cmp_Or_int.f, cmp_Or_int.l0, rd, List.length_cons, List.length_nil, orL, e1, e2]
  simp
  split
  · split <;> rfl
  · rfl
def Grw (w w' : World) : Prop := ∃ q os, w' = Sort.grow (w.drewN q) os
theorem Grw.refl (w : World) : Grw w w := ⟨0, #[], by simp [Sort.grow, World.drewN]⟩
theorem Grw.alloc {w w' : World} (h : Grw w w') (o : Obj) : Grw w (w'.alloc o) := by
  obtain ⟨q, os, rfl⟩ := h
  exact ⟨q, os.push o, by simp [Sort.grow, World.alloc]⟩
theorem Grw.drewN {w w' : World} (h : Grw w w') (n : Nat) : Grw w (w'.drewN n) := by
  obtain ⟨q, os, rfl⟩ := h
  exact ⟨q + n, os, by simp [Sort.grow, World.drewN, Nat.add_assoc]⟩
theorem Grw.drew {w w' : World} (h : Grw w w') : Grw w w'.drew := h.drewN 1
theorem Grw.trans {a b c : World} (h : Grw a b) (k : Grw b c) : Grw a c := by
  obtain ⟨q, os, rfl⟩ := h
  obtain ⟨q', os', rfl⟩ := k
  exact ⟨q + q', os ++ os', by simp [Sort.grow, World.drewN, Nat.add_assoc, Array.append_assoc]⟩
theorem run_two (w : World) (p q : Int) : (Instr.buildSlice 131 2 #[(0, .int .i64 p), (1, .int .i64 q)]).run Try.prog w = .ok (.slice (some ⟨w.heap.size, 0, none⟩) 2 2) (w.alloc (.cells #[.int .i64 p, .int .i64 q] 3)) := by
  obtain ⟨i, h1, h2, h3, h4⟩ := y3_ok.info
  have h2 : i.size = 1 := h2
  refine run_buildSlice w 131 3 2 _ #[.int .i64 p, .int .i64 q] i (.int .i64 0) (slice_of y131_ok rfl) h1 h4 (by rw [h2]; decide) (by rw [h2]; decide) ?_
  rw [h2]
  simp [Instr.fill, Value.cells, Array.range_succ, Array.range_zero']
theorem two_C (W : World) (p q : Int) : Kd.C (Kd.int .i64) (W.alloc (.cells #[.int .i64 p, .int .i64 q] 3)) (some ⟨W.heap.size, 0, none⟩) 2 [p, q] := by
  refine ⟨rfl, by decide, fun _ => ⟨_, rfl, fun j x hj => ?_⟩⟩
  rcases j with _ | _ | j
  · simp at hj; subst hj
    refine ⟨[.int .i64 p], rfl, rfl, fun i u hu => ?_⟩
    rcases i with _ | i
    · simp at hu; subst hu
      show (W.alloc _).cell? ⟨W.heap.size, 0 + (0 * 1 + 0), none⟩ = _
      rw [World.cell?, heap_alloc_new]
      rfl
    · simp at hu
  · simp at hj; subst hj
    refine ⟨[.int .i64 q], rfl, rfl, fun i u hu => ?_⟩
    rcases i with _ | i
    · simp at hu; subst hu
      show (W.alloc _).cell? ⟨W.heap.size, 0 + (1 * 1 + 0), none⟩ = _
      rw [World.cell?, heap_alloc_new]
      rfl
    · simp at hu
  · simp at hj
theorem two_op {ops : Array Oper} {rest : List Oper} {o : Oper} {a : Act} {Q : Exit → Act → World → Prop} {W : World} (hgd : o.guard = none) {x y : Operand} (ho : o.op = .buildSlice 131 2 #[(0, x), (1, y)]) {p q : Int} (hx : a.eval x = .int .i64 p) (hy : a.eval y = .int .i64 q)
    (h : ∀ (ad : Option Addr) (W' : World), Kd.C (Kd.int .i64) W' ad 2 [p, q] → Grw W W' → wpList Try.prog ops Q rest (a.put o.dst (.slice ad 2 2)) W') : wpList Try.prog ops Q (o :: rest) a W := by
  refine Kd.event_run hgd ?_ (h _ _ (two_C W p q) ((Grw.refl W).alloc _))
  unfold execOp
  simp [ho, hx, hy, run_two, Result.andThen]
theorem wordOrder_grw (A0 : Option Addr) (c0 : Nat) (l0 : List Int) (A1 : Option Addr) (c1 : Nat) (l1 : List Int) (w : World) (h0 : l0.length ≤ 1099511627776) (hr0 : Kd.C (Kd.int .i64) w A0 l0.length l0) (hc0 : l0.length ≤ c0) (hr1 : Kd.C (Kd.int .i64) w A1 l1.length l1) (hc1 : l1.length ≤ c1) :
    Calls Try.prog 115 #[.slice A0 l0.length c0, .slice A1 l1.length c1] w fun e w' => e = .returned (.int .i64 (orL [cmpI l0.length l1.length, cmpL l0 l1])) ∧ Grw w w' := by
  have A3 := Aside0.mk (cc (l0.length : Int) (l1.length : Int))
  have A4 := Aside0.mk (cS l0 l1 h0)
  clear h0
  generalize cmpI (l0.length : Int) (l1.length : Int) = t109 at A3 ⊢
  generalize cmpL l0 l1 = t110 at A4 ⊢
  have A5 := Aside0.mk (cO t109 t110)
  generalize orL [t109, t110] = t114 at A5 ⊢
  generalize l0.length + 1 = kk at A4
  have HOr0 : ∀ (W : World) (A : Option Addr), Kd.C (Kd.int .i64) W A 2 [t109, t110] → Calls Try.prog 145 #[.slice A 2 2] W fun e w' => e = .returned (.int .i64 t114) ∧ Drawn0 W w' := fun W A h => cmp_Or_int.calls 3 A 2 [t109, t110] t114 W h (Nat.le_refl 2) A5.out
  have HOr := Aside0.mk HOr0
  clear HOr0
  have HR0 := Aside0.mk hr0
  have HC0 := Aside0.mk hc0
  clear hr0 hc0
  have HR1 := Aside0.mk hr1
  have HC1 := Aside0.mk hc1
  clear hr1 hc1
  go_enter Try.func115, Try.ntmps115
  go_wp2_with (first | ((with_reducible refine gate_callee (f := 160) rfl ?_); refine goesL_ (some 9) rfl rfl Try.func160 (by kernel_rfl) rfl #[.int .i64 (l0.length : Int), .int .i64 (l1.length : Int)] rfl (by (try simp only [List.map_toArray, List.map_cons, List.map_nil]); first | done | rfl) ?_; (with_reducible refine (cmp_Compare_int.calls (l0.length : Int) (l1.length : Int) t109 _ A3.out).mono ?_); rintro e w' ⟨rfl, ⟨nd, rfl⟩⟩; refine ⟨_, rfl, ?_⟩) | ((with_reducible refine gate_callee (f := 161) rfl ?_); refine goesL_ (some 12) rfl rfl Try.func161 (by kernel_rfl) rfl #[.slice A0 l0.length c0, .slice A1 l1.length c1] rfl (by (try simp only [List.map_toArray, List.map_cons, List.map_nil]); first | done | rfl) ?_; (with_reducible refine (slices_Compare_int64_int64.calls kk _ _ l0 _ _ l1 t110 _ ?side1 ?side2 ?side3 ?side4 A4.out).mono ?_); (case side1 => repeat (first | exact HR0.out | (with_reducible refine Kd.C_alloc ?_ _) | (with_reducible refine Kd.C_drewN ?_ _) | (with_reducible refine Kd.C_drew ?_))); (case side2 => exact HC0.out); (case side3 => repeat (first | exact HR1.out | (with_reducible refine Kd.C_alloc ?_ _) | (with_reducible refine Kd.C_drewN ?_ _) | (with_reducible refine Kd.C_drew ?_))); (case side4 => exact HC1.out); rintro e w' ⟨rfl, ⟨nd, rfl⟩⟩; refine ⟨_, rfl, ?_⟩) | ((with_reducible refine gate_dst (N := 13) rfl ?_); refine two_op rfl rfl (p := t109) (q := t110) ?hx ?hy ?_; (case hx => first | rfl | (go_simp; done)); (case hy => first | rfl | (go_simp; done)); intro ad6 w6 hC6 hG6; have HC6 := Aside0.mk hC6; have HG6 := Aside0.mk hG6; clear hC6 hG6) | ((with_reducible refine gate_callee (f := 145) rfl ?_); refine goesL_ (some 14) rfl rfl Try.func145 (by kernel_rfl) rfl #[.slice ad6 2 2] rfl (by (try simp only [List.map_toArray, List.map_cons, List.map_nil]); first | done | rfl) ?_; (with_reducible refine (HOr.out _ _ HC6.out).mono ?_); rintro e w' ⟨rfl, ⟨nd, rfl⟩⟩; refine ⟨_, rfl, ?_⟩))
  go_ret
  exact ⟨rfl, (Grw.trans (by repeat (first | exact Grw.refl _ | apply Grw.alloc | apply Grw.drewN | apply Grw.drew)) HG6.out).drewN _⟩
theorem sumCmp_grw (A0 : Option Addr) (c0 : Nat) (l0 : List Int) (v0 : Value) (A1 : Option Addr) (c1 : Nat) (l1 : List Int) (v1 : Value) (w : World) (h0 : l0.length ≤ 1099511627776) (hr0 : Kd.C (Kd.int .i64) w A0 l0.length l0) (hc0 : l0.length ≤ c0) (hr1 : Kd.C (Kd.int .i64) w A1 l1.length l1) (hc1 : l1.length ≤ c1) :
    Calls Try.prog 164 #[.agg #[.slice A0 l0.length c0, v0], .agg #[.slice A1 l1.length c1, v1]] w fun e w' => e = .returned (.int .i64 (orL [cmpI l0.length l1.length, cmpL l0 l1])) ∧ Grw w w' := by
  have HR0 := Aside0.mk hr0
  have HR1 := Aside0.mk hr1
  clear hr0 hr1
  have hcon := fun W H0 H1 => wordOrder_grw A0 c0 l0 A1 c1 l1 W h0 H0 hc0 H1 hc1
  clear h0 hc0 hc1
  generalize orL [cmpI l0.length l1.length, cmpL l0 l1] = r at hcon ⊢
  have HH := Aside0.mk hcon
  clear hcon
  go_enter Try.func164, Try.ntmps164
  go_wp2_with (first | (go_at_call 115; refine (HH.out _ ?s1 ?s2).mono ?_; (case s1 => repeat (first | exact HR0.out | (with_reducible refine Kd.C_alloc ?_ _) | (with_reducible refine Kd.C_drewN ?_ _) | (with_reducible refine Kd.C_drew ?_))); (case s2 => repeat (first | exact HR1.out | (with_reducible refine Kd.C_alloc ?_ _) | (with_reducible refine Kd.C_drewN ?_ _) | (with_reducible refine Kd.C_drew ?_))); rintro e w' ⟨rfl, hG⟩; have HG := Aside0.mk hG; clear hG))
  go_ret
  exact ⟨rfl, Grw.trans (by repeat (first | exact Grw.refl _ | apply Grw.alloc | apply Grw.drewN | apply Grw.drew)) HG.out⟩
end Go.Proofs.Ytokakggilajjlaa.V

set_option linter.unusedVariables false
set_option linter.unusedSimpArgs false
namespace Go.Proofs.Ytokakggilajjlaa.V
open Go
theorem lex_irrefl : ∀ (a : List Int), lexLt a a = false
  | [] => rfl
  | x :: a => by rw [lexLt, if_pos rfl]; exact lex_irrefl a
theorem lex_trans : ∀ {a b c : List Int}, lexLt a b = true → lexLt b c = true → lexLt a c = true
  | [], _, _, h, _ => by cases h
  | _ :: _, [], _, h, _ => by cases h
  | _ :: _, _ :: _, [], _, h => by cases h
  | x :: a, y :: b, z :: c, h, k => by
    rw [lexLt] at h k ⊢
    by_cases e1 : x = y
    · subst e1
      rw [if_pos rfl] at h
      by_cases e2 : x = z
      · subst e2
        rw [if_pos rfl] at k
        rw [if_pos rfl]
        exact lex_trans h k
      · rw [if_neg e2] at k ⊢; exact k
    · rw [if_neg e1] at h
      have h := of_decide_eq_true h
      by_cases e2 : y = z
      · subst e2
        rw [if_neg e1]; exact decide_eq_true h
      · rw [if_neg e2] at k
        have k := of_decide_eq_true k
        rw [if_neg (by omega)]
        exact decide_eq_true (by omega)
theorem lex_total : ∀ {a b : List Int}, a.length = b.length → lexLt a b = false → lexLt b a = false → a = b
  | [], [], _, _, _ => rfl
  | [], _ :: _, h, _, _ => by simp at h
  | _ :: _, [], h, _, _ => by simp at h
  | x :: a, y :: b, h, h1, h2 => by
    rw [lexLt] at h1 h2
    by_cases e : x = y
    · subst e
      rw [if_pos rfl] at h1 h2
      rw [lex_total (by simpa using h) h1 h2]
    · rw [if_neg e] at h1
      rw [if_neg (Ne.symm e)] at h2
      have h1 := of_decide_eq_false h1
      have h2 := of_decide_eq_false h2
      omega
theorem before_irrefl (a : List Int) : beforeB a a = false := by rw [beforeB, if_pos rfl]; exact lex_irrefl a
theorem before_trans {a b c : List Int} (h : beforeB a b = true) (k : beforeB b c = true) : beforeB a c = true := by
  unfold beforeB at *
  by_cases e1 : a.length = b.length
  · rw [if_pos e1] at h
    by_cases e2 : b.length = c.length
    · rw [if_pos e2] at k
      rw [if_pos (e1.trans e2)]
      exact lex_trans h k
    · rw [if_neg e2] at k
      have k := of_decide_eq_true k
      rw [if_neg (by omega)]
      exact decide_eq_true (by omega)
  · rw [if_neg e1] at h
    have h := of_decide_eq_true h
    by_cases e2 : b.length = c.length
    · rw [if_neg (by omega)]
      exact decide_eq_true (by omega)
    · rw [if_neg e2] at k
      have k := of_decide_eq_true k
      rw [if_neg (by omega)]
      exact decide_eq_true (by omega)
theorem before_total {a b : List Int} (h : beforeB a b = false) (k : beforeB b a = false) : a = b := by
  unfold beforeB at *
  by_cases e : a.length = b.length
  · rw [if_pos e] at h
    rw [if_pos e.symm] at k
    exact lex_total e h k
  · rw [if_neg e] at h
    rw [if_neg (Ne.symm e)] at k
    have h := of_decide_eq_false h
    have k := of_decide_eq_false k
    omega
theorem before_asymm {a b : List Int} (h : beforeB a b = true) : beforeB b a = false := by
  rw [← Bool.not_eq_true]
  intro k
  have := before_trans h k
  rw [before_irrefl] at this
  cases this
theorem before_ntrans {a b c : List Int} (h : beforeB a b = false) (k : beforeB b c = false) : beforeB a c = false := by
  rw [← Bool.not_eq_true]
  intro q
  by_cases e : beforeB b a = true
  · have := before_trans e q
    rw [k] at this; cases this
  · have e : beforeB b a = false := by simpa using e
    rw [before_total h e] at q
    rw [q] at k; cases k
theorem before_of {a b : List Int} (h : beforeB b a = false) (hne : a ≠ b) : beforeB a b = true := by
  rw [← Bool.not_eq_false]
  exact fun k => hne (before_total k h)
def SortedT (l : TermL) : Prop := l.Pairwise fun x y => beforeB x.1 y.1 = true
theorem sorted_unique : ∀ {l m : TermL}, SortedT l → SortedT m → (∀ x, x ∈ l ↔ x ∈ m) → l = m
  | [], [], _, _, _ => rfl
  | [], y :: m, _, _, h => absurd ((h y).2 List.mem_cons_self) (by simp)
  | x :: l, [], _, _, h => absurd ((h x).1 List.mem_cons_self) (by simp)
  | x :: l, y :: m, hl, hm, h => by
    obtain ⟨l1, l2⟩ := List.pairwise_cons.1 hl
    obtain ⟨m1, m2⟩ := List.pairwise_cons.1 hm
    have e : x = y := by
      rcases List.mem_cons.1 ((h x).1 List.mem_cons_self) with e | hx
      · exact e
      · rcases List.mem_cons.1 ((h y).2 List.mem_cons_self) with e | hy
        · exact e.symm
        · have := before_trans (l1 y hy) (m1 x hx)
          rw [before_irrefl] at this; cases this
    subst e
    have nx : ∀ z ∈ l, z ≠ x := fun z hz e => by
      have := l1 z hz
      rw [e, before_irrefl] at this; cases this
    have ny : ∀ z ∈ m, z ≠ x := fun z hz e => by
      have := m1 z hz
      rw [e, before_irrefl] at this; cases this
    rw [sorted_unique l2 m2 fun z => ⟨fun hz => ((List.mem_cons.1 ((h z).1 (List.mem_cons_of_mem _ hz))).resolve_left (nx z hz)), fun hz => ((List.mem_cons.1 ((h z).2 (List.mem_cons_of_mem _ hz))).resolve_left (ny z hz))⟩]
def sortT (l : TermL) : TermL := l.mergeSort fun x y => !beforeB y.1 x.1
theorem sortT_perm (l : TermL) : (sortT l).Perm l := List.mergeSort_perm ..
theorem sortT_mem {l : TermL} {x : List Int × Int} : x ∈ sortT l ↔ x ∈ l := (sortT_perm l).mem_iff
theorem sortT_length (l : TermL) : (sortT l).length = l.length := (sortT_perm l).length_eq
/-- Lists of one another's terms, in order: one. -/
theorem strict_of {l : TermL} (h : l.Pairwise fun x y => beforeB y.1 x.1 = false) (hn : (l.map (·.1)).Nodup) : SortedT l := by
  induction l with
  | nil => exact List.Pairwise.nil
  | cons x l ih =>
    obtain ⟨h1, h2⟩ := List.pairwise_cons.1 h
    simp only [List.map_cons, List.nodup_cons] at hn
    exact List.pairwise_cons.2 ⟨fun y hy => before_of (h1 y hy) (fun e => hn.1 (e ▸ List.mem_map.2 ⟨y, hy, rfl⟩)), ih h2 hn.2⟩
theorem sortT_sorted {l : TermL} (hn : (l.map (·.1)).Nodup) : SortedT (sortT l) := by
  refine strict_of ?_ (((sortT_perm l).map _).nodup_iff.2 hn)
  have := List.pairwise_mergeSort (le := fun x y : List Int × Int => !beforeB y.1 x.1) (fun a b c h k => by
    simp only [Bool.not_eq_true'] at h k ⊢
    exact before_ntrans k h) (fun a b => by
    cases h : beforeB b.1 a.1 with
    | false => rfl
    | true => rw [before_asymm h]; rfl) l
  exact this.imp (fun h => by simpa using h)
theorem sortT_eq {l m : TermL} (hm : SortedT m) (hn : (l.map (·.1)).Nodup) (h : ∀ x, x ∈ l ↔ x ∈ m) : sortT l = m :=
  sorted_unique (sortT_sorted hn) hm fun x => sortT_mem.trans (h x)
end Go.Proofs.Ytokakggilajjlaa.V

set_option linter.unusedVariables false
set_option linter.unusedSimpArgs false
namespace Go.Proofs.Ytokakggilajjlaa.V
open Go Go.RowKit Go.Proofs.YtokakggilajjlaaW.PrintWords Go.Proofs.YtokakggilajjlaaW.PrintLast Go.Proofs.YtokakggilajjlaaW.PrintMore
def sp_sortT : List Cv → List Obj' → Tree
  | [.one (.own 0), .one (.v u)], [.drow t (.pr (.sl 2 (.int .i64)) (.int .i64)) ts] => .need (u = .func (.func 164) #[] #[] ∧ ts.length ≤ 1000000 ∧ (∀ x ∈ (ts : TermL), x.1.length ≤ 1099511627776) ∧ ((ts : TermL).map (·.1)).Nodup) (.ret (.tup []) [.drow t (.pr (.sl 2 (.int .i64)) (.int .i64)) (sortT ts)])
  | _, _ => .fail
section
variable {α : Type}
def DRp (R : (Nat → Prop) → α → List Value → Prop) : (Nat → Prop) → List (α × List Value) → Prop
  | φ, [] => ∀ b, ¬ φ b
  | φ, p :: r => ∃ φ1 φ2, R φ1 p.1 p.2 ∧ DRp R φ2 r ∧ (∀ b, φ b ↔ φ1 b ∨ φ2 b) ∧ ∀ b, φ1 b → ¬ φ2 b
theorem DR.pairs {R : (Nat → Prop) → α → List Value → Prop} : ∀ {φ : Nat → Prop} {l : List α} {cs : List Value}, DR R φ l cs → ∃ ps : List (α × List Value), l = ps.map (·.1) ∧ cs = ps.flatMap (·.2) ∧ DRp R φ ps
  | φ, [], cs, h => ⟨[], rfl, h.1, h.2⟩
  | φ, x :: l, cs, ⟨c1, c2, φ1, φ2, h1, h2, h3, h4, h5⟩ => by
    obtain ⟨ps, e1, e2, e3⟩ := DR.pairs h3
    exact ⟨(x, c1) :: ps, by rw [e1]; rfl, by rw [h1, e2]; rfl, φ1, φ2, h2, e3, h4, h5⟩
theorem DRp.dr {R : (Nat → Prop) → α → List Value → Prop} : ∀ {φ : Nat → Prop} {ps : List (α × List Value)}, DRp R φ ps → DR R φ (ps.map (·.1)) (ps.flatMap (·.2))
  | φ, [], h => ⟨rfl, h⟩
  | φ, p :: r, ⟨φ1, φ2, h2, h3, h4, h5⟩ => ⟨p.2, _, φ1, φ2, by rw [List.flatMap_cons], h2, DRp.dr h3, h4, h5⟩
theorem DRp.perm {R : (Nat → Prop) → α → List Value → Prop} {ps qs : List (α × List Value)} (h : ps.Perm qs) : ∀ {φ : Nat → Prop}, DRp R φ ps → DRp R φ qs := by
  induction h with
  | nil => exact fun h => h
  | cons x _ ih => exact fun ⟨φ1, φ2, h2, h3, h4, h5⟩ => ⟨φ1, φ2, h2, ih h3, h4, h5⟩
  | swap x y l =>
    rintro φ ⟨φ1, φ2, h2, ⟨φ3, φ4, k2, k3, k4, k5⟩, h4, h5⟩
    refine ⟨φ3, fun b => φ1 b ∨ φ4 b, k2, ⟨φ1, φ4, h2, k3, fun _ => Iff.rfl, fun b hb h => h5 b hb ((k4 b).2 (.inr h))⟩, fun b => ?_, fun b hb h => h.elim (fun h => h5 b h ((k4 b).2 (.inl hb))) (k5 b hb)⟩
    rw [h4 b, k4 b]
    exact ⟨fun h => h.elim (fun h => .inr (.inl h)) (fun h => h.elim .inl (fun h => .inr (.inr h))), fun h => h.elim (fun h => .inr (.inl h)) (fun h => h.elim .inl (fun h => .inr (.inr h)))⟩
  | trans _ _ ih1 ih2 => exact fun h => ih2 (ih1 h)
theorem DRp.mem {R : (Nat → Prop) → α → List Value → Prop} {p : α × List Value} : ∀ {φ : Nat → Prop} {ps : List (α × List Value)}, DRp R φ ps → p ∈ ps → ∃ ψ : Nat → Prop, R ψ p.1 p.2 ∧ ∀ b, ψ b → φ b
  | φ, q :: r, ⟨φ1, φ2, h2, h3, h4, h5⟩, hp => by
    rcases List.mem_cons.1 hp with rfl | hp
    · exact ⟨φ1, h2, fun b hb => (h4 b).2 (.inl hb)⟩
    · obtain ⟨ψ, k1, k2⟩ := DRp.mem h3 hp
      exact ⟨ψ, k1, fun b hb => (h4 b).2 (.inr (k2 b hb))⟩
theorem flat_get {β : Type} (enc : α → List β) (k : Nat) (k0 : 0 < k) (hk : ∀ x, (enc x).length = k) : ∀ (l : List α) (t : Nat), (l.flatMap enc)[t]? = (l[t / k]?).bind fun x => (enc x)[t % k]?
  | [], t => by simp
  | x :: l, t => by
    rw [List.flatMap_cons]
    by_cases h : t < k
    · rw [List.getElem?_append_left (by rw [hk]; exact h), Nat.div_eq_of_lt h, Nat.mod_eq_of_lt h]
      rfl
    · rw [List.getElem?_append_right (by rw [hk]; omega), hk, flat_get enc k k0 hk l (t - k)]
      have e1 : t / k = (t - k) / k + 1 := by
        rw [← Nat.add_div_right _ k0]; congr 1; omega
      have e2 : t % k = (t - k) % k := by
        rw [← Nat.add_mod_right (t - k) k]; congr 1; omega
      rw [e1, e2, List.getElem?_cons_succ]
theorem flatK_list [Inhabited α] (enc : α → List Value) (k : Nat) (k0 : 0 < k) (hk : ∀ x, (enc x).length = k) (d : Array α) : (Go.Sort.flatK enc k d).toList = d.toList.flatMap enc := by
  apply List.ext_getElem?
  intro t
  rw [flat_get enc k k0 hk]
  by_cases h : t < d.size * k
  · have hd : t / k < d.size := (Nat.div_lt_iff_lt_mul k0).2 h
    have hm : t % k < (enc d[t / k]!).length := by rw [hk]; exact Nat.mod_lt _ k0
    have e := Go.Sort.get_flatK enc k d t h
    have hs : t < (Go.Sort.flatK enc k d).size := by simpa using h
    rw [getElem!_pos _ t hs] at e
    rw [Array.getElem?_toList, Array.getElem?_eq_getElem hs, e, Array.getElem?_toList, Array.getElem?_eq_getElem hd, Option.bind_some]
    rw [getElem!_pos d _ hd] at hm ⊢
    rw [getElem!_pos (enc d[t / k]) (t % k) hm, List.getElem?_eq_getElem hm]
  · have hd : ¬ t / k < d.size := fun h' => h ((Nat.div_lt_iff_lt_mul k0).1 h')
    rw [Array.getElem?_toList, Array.getElem?_eq_none (by simpa using h), Array.getElem?_toList, Array.getElem?_eq_none (by omega)]
    rfl
end
theorem putCells_take (F c : Array Value) (h : F.size ≤ c.size) : (Go.Sort.putCells id 0 F c).toList.take F.size = F.toList := by
  apply List.ext_getElem?
  intro t
  rw [List.getElem?_take]
  by_cases ht : t < F.size
  · rw [if_pos ht]
    have hc : t < c.size := by omega
    simp [Go.Sort.putCells, ht, hc]
  · rw [if_neg ht]
    simp [ht]
section
variable {α : Type} [Inhabited α] {enc : α → List Value} {k g m : Nat} {w : World} {d : Array α} {os : Array Obj}
theorem sw_at {cur : Array Value} {t : TypeId} {fr : Nat × Nat} (h : w.heap[g]? = some (.cells cur t fr)) : (Go.Proofs.sortWorldK enc k w g 0 m d os).heap[g]? = some (.cells (Go.Sort.putCells id 0 (Go.Sort.flatK enc k d) cur) t fr) := by
  have hg : g < w.heap.size := (Array.getElem?_eq_some_iff.1 h).1
  show ((w.heap.modify g (Go.Sort.onCells _)) ++ os)[g]? = _
  rw [Array.getElem?_append_left (by simpa using hg), Array.getElem?_modify, if_pos rfl, h]
  rfl
theorem sw_other {b : Nat} (hb : b < w.heap.size) (hne : b ≠ g) : (Go.Proofs.sortWorldK enc k w g 0 m d os).heap[b]? = w.heap[b]? := by
  show ((w.heap.modify g (Go.Sort.onCells _)) ++ os)[b]? = _
  rw [Array.getElem?_append_left (by simpa using hb), Array.getElem?_modify, if_neg (Ne.symm hne)]
theorem sw_grown : w.grownBy (Go.Proofs.sortWorldK enc k w g 0 m d os) (some g) :=
  ⟨rfl, rfl, rfl, by show w.heap.size ≤ ((w.heap.modify g (Go.Sort.onCells _)) ++ os).size; simp, fun b hb hne => sw_other hb (fun e => hne (by rw [e]))⟩
end
/-- What the sort asks of an element. -/
def SrtQ (w : World) (g : Nat) (p : (List Int × Int) × List Value) : Prop :=
  p.2.length = 2 ∧ (∀ v ∈ p.2, v.oneCell' = true) ∧ ∃ A c v, p.2 = [.slice A p.1.1.length c, v] ∧ p.1.1.length ≤ c ∧ p.1.1.length ≤ 1099511627776 ∧ ∀ W : World, (∀ b, b < w.heap.size → b ≠ g → W.heap[b]? = w.heap[b]?) → Kd.C (Kd.int .i64) W A p.1.1.length p.1.1
theorem srtQ_of {w : World} {g : Nat} {ψ : Nat → Prop} {x : List Int × Int} {c : List Value} (h : DRep w kTerm ψ x c) (hg : ¬ ψ g) (hl : x.1.length ≤ 1099511627776) : SrtQ w g (x, c) := by
  obtain ⟨c1, c2, φ1, φ2, rfl, ⟨u, xs, φ', rfl, h1, h2, h3, h4, h5⟩, ⟨rfl, k1, k2⟩, h6, h7⟩ := h
  obtain ⟨ad, c, rfl, h8, h9⟩ := own_cells h1
  have hr : xs = (x.1 : List Int).map (Value.int .i64) := Reps.ints (h2.reps (F := fun _ => True) (w := w) fun ψ y c _ h => ⟨h.1, h.2.1⟩)
  refine ⟨rfl, fun v hv => ?_, ad, c, .int .i64 x.2, rfl, h8, hl, fun W hW => ⟨rfl, ?_, fun hn => ?_⟩⟩
  · simp at hv
    rcases hv with rfl | rfl <;> rfl
  · show x.1.length ≤ _
    omega
  · have hx : xs ≠ [] := fun e => by
      rw [hr] at e
      have := congrArg List.length e
      simp at this
      have hn : 0 < x.1.length := hn
      rw [this] at hn
      simp at hn
    obtain ⟨b, rfl, hb, hc⟩ := h9 hx
    have hψ : ψ b := (h6 b).2 (.inl ((h4 b).2 (.inl hb)))
    refine ⟨⟨b, 0, none⟩, rfl, fun j y hj => ⟨[.int .i64 y], rfl, rfl, fun i v hv => ?_⟩⟩
    rcases i with _ | i
    · simp at hv
      subst hv
      have hjl : j < xs.length := by
        rw [hr, List.length_map]
        exact (List.getElem?_eq_some_iff.1 hj).1
      have e := hc j hjl
      have hblt := World.block_lt_of_cell? w _ e
      have e2 : xs[j] = .int .i64 y := by
        have : xs[j]? = some (.int .i64 y) := by rw [hr, List.getElem?_map, hj]; rfl
        rw [List.getElem?_eq_getElem hjl] at this
        injection this
      rw [e2] at e
      rw [show (Kd.int .i64).sz = 1 from rfl, Addr.add_lit, Nat.zero_add, Nat.mul_one, Nat.add_zero]
      exact (World.cell?_of_block (hW b hblt (fun e => hg (e ▸ hψ)))).trans e
    · simp at hv
def srtC (x y : List Int × Int) : Int := orL [cmpI x.1.length y.1.length, cmpL x.1 y.1]
theorem srtC_lt (x y : List Int × Int) : Go.Proofs.ltOf srtC x y = beforeB x.1 y.1 := by
  have h := order_before x.1 y.1
  unfold Go.Proofs.ltOf srtC
  cases hb : beforeB x.1 y.1 with
  | true =>
    rw [hb] at h
    have h := of_decide_eq_false h
    exact decide_eq_true (by omega)
  | false =>
    rw [hb] at h
    have h := of_decide_eq_true h
    exact decide_eq_false (by omega)
end Go.Proofs.Ytokakggilajjlaa.V

set_option linter.unusedVariables false
set_option linter.unusedSimpArgs false
namespace Go.Proofs.Ytokakggilajjlaa.V
open Go Go.RowKit Go.Proofs.YtokakggilajjlaaW.PrintWords Go.Proofs.YtokakggilajjlaaW.PrintLast Go.Proofs.YtokakggilajjlaaW.PrintMore
/-- The sort, at a row that is not empty. -/
theorem sort_run {w : World} {g cap : Nat} {t : TypeId} {cur : Array Value} {ps : List ((List Int × Int) × List Value)} (hg : w.heap[g]? = some (.cells cur t (0, 0))) (hne : ps ≠ []) (hQ : ∀ p ∈ ps, SrtQ w g p) (hlen : ps.length ≤ 1000000) (hcur : ps.length * 2 ≤ cur.size) (htake : cur.toList.take (ps.length * 2) = ps.flatMap (·.2)) :
    Calls Try.prog 163 #[.slice (some ⟨g, 0, none⟩) ps.length cap, .func (.func 164) #[] #[]] w fun e w' => e = .returned (.tuple #[]) ∧
      ∃ (qs : List ((List Int × Int) × List Value)) (cur' : Array Value), qs.Perm ps ∧ (qs.map (·.1)).Pairwise (fun x y => beforeB y.1 x.1 = false) ∧ w.grownBy w' (some g) ∧ w'.heap[g]? = some (.cells cur' t (0, 0)) ∧ cur'.size = cur.size ∧ cur'.toList.take (ps.length * 2) = qs.flatMap (·.2) := by
  obtain ⟨p0, hp0⟩ := List.exists_mem_of_ne_nil ps hne
  let α := {p // SrtQ w g p}
  haveI : Inhabited α := ⟨⟨p0, hQ p0 hp0⟩⟩
  let enc : α → List Value := fun x => x.1.2
  let d : Array α := (ps.attachWith _ hQ).toArray
  let cf : α → α → Int := fun x y => srtC x.1.1 y.1.1
  have hv : (ps.attachWith _ hQ).map Subtype.val = ps := List.attachWith_map_subtype_val ..
  have hd : d.size = ps.length := by
    show (ps.attachWith _ hQ).length = _
    rw [← congrArg List.length hv, List.length_map]
  have hk : ∀ x, (enc x).length = 2 := fun x => x.2.1
  have hlt : ∀ x y, Go.Proofs.ltOf cf x y = beforeB x.1.1.1 y.1.1.1 := fun x y => srtC_lt x.1.1 y.1.1
  have hO : Go.Sort.SWO (Go.Proofs.ltOf cf) := ⟨fun x => by rw [hlt]; exact before_irrefl _, fun x y z h k => by rw [hlt] at *; exact before_trans h k, fun x y z h k => by rw [hlt] at *; exact before_ntrans h k⟩
  have hcmp : Go.Proofs.CmpLays Try.prog 164 #[] enc 2 cf g 0 d.size w := fun m os dk hs x y => by
    obtain ⟨_, _, A, c, v, ex, hc, hl, hC⟩ := x.2
    obtain ⟨_, _, A', c', v', ey, hc', hl', hC'⟩ := y.2
    have := sumCmp_grw A c x.1.1.1 v A' c' y.1.1.1 v' (Go.Proofs.sortWorldK enc 2 w g 0 m dk os) hl (hC _ (fun b hb hne => sw_other hb hne)) hc (hC' _ (fun b hb hne => sw_other hb hne)) hc'
    have ex' : enc x = [.slice A x.1.1.1.length c, v] := ex
    have ey' : enc y = [.slice A' y.1.1.1.length c', v'] := ey
    rw [ex', ey', Array.append_empty]
    exact this
  have hfl : (Go.Sort.flatK enc 2 d).toList = ps.flatMap (·.2) := by
    rw [flatK_list enc 2 (by decide) hk]
    show ((ps.attachWith _ hQ).toArray.toList).flatMap enc = _
    have e : ps.flatMap (·.2) = ((ps.attachWith _ hQ).map Subtype.val).flatMap (·.2) := by rw [hv]
    rw [e, List.flatMap_map]
  have hfs : (Go.Sort.flatK enc 2 d).size = ps.length * 2 := by rw [Go.Sort.size_flatK, hd]
  have hH : Go.Sort.HoldsK enc 2 w g 0 d := fun j hj => by
    rw [hfs] at hj
    have e1 : cur[j]? = some ((Go.Sort.flatK enc 2 d)[j]!) := by
      have : (cur.toList.take (ps.length * 2))[j]? = some ((Go.Sort.flatK enc 2 d)[j]!) := by
        rw [htake, ← hfl, Array.getElem?_toList, getElem!_pos _ j (by rw [hfs]; exact hj), Array.getElem?_eq_getElem (by rw [hfs]; exact hj)]
      rw [List.getElem?_take, if_pos hj] at this
      simpa using this
    constructor
    · rw [World.cell?, hg, Nat.zero_add]
      simpa using e1
    · rw [World.frozen?, hg]
      simp
  have hcon := Go.Proofs.AnyQ.slices_SortFunc sortF 2 (fun w => y68_ok.isAgg w) (fun w => y68_ok.sizeOf w) enc hk (fun x => x.2.2.1) cf hO 164 #[] g 0 cap d w (ent Try.func164 rfl rfl) hcmp hH (Array.getElem?_eq_some_iff.1 hg).1 (by rw [hd]; omega)
  change Calls Try.prog 163 _ _ _ at hcon
  rw [hd] at hcon
  refine hcon.mono ?_
  rintro e w' ⟨rfl, d', n, os, ⟨hp1, _, hp3⟩, hsort, rfl⟩
  have hd' : d'.size = ps.length := hp1.trans hd
  have hperm : d'.toList.Perm d.toList := by
    have e1 : d'.extract 0 ps.length = d' := by rw [← hd']; simp
    have e2 : d.extract 0 ps.length = d := by rw [← hd]; simp
    rw [e1, e2] at hp3
    exact hp3
  have hfl' : (Go.Sort.flatK enc 2 d').toList = (d'.toList.map (·.1)).flatMap (·.2) := by
    rw [flatK_list enc 2 (by decide) hk, List.flatMap_map]
  have hfs' : (Go.Sort.flatK enc 2 d').size = ps.length * 2 := by rw [Go.Sort.size_flatK, hd']
  refine ⟨rfl, d'.toList.map (·.1), _, ?_, ?_, sw_grown, sw_at hg, by simp [Go.Sort.putCells], ?_⟩
  · have := hperm.map (fun x : α => x.1)
    rw [show d.toList.map (fun x : α => x.1) = ps from hv] at this
    exact this
  · rw [List.map_map, List.pairwise_map, List.pairwise_iff_getElem]
    intro i j hi hj hij
    have hj' : j < d'.size := by simpa using hj
    have hi' : i < d'.size := by omega
    have := hsort i j (Nat.zero_le _) hij (by omega)
    rw [hlt, getElem!_pos d' j hj', getElem!_pos d' i hi'] at this
    simpa using this
  · have := putCells_take (Go.Sort.flatK enc 2 d') cur (by rw [hfs']; exact hcur)
    rw [hfs', hfl'] at this
    exact this
theorem good_sortT : Good Try.prog 163 sp_sortT := by
  intro E0 cs os0 vs Kc hF hD h16 hO hdis hnof ha hK
  have hI := Inv.enter hF hD h16 hO hdis hnof
  unfold sp_sortT at hK
  split at hK
  case h_2 => exact hK.elim
  rename_i u t ts
  obtain ⟨u1, u2, rfl, hu1, hu2⟩ := two_args ha
  obtain ⟨⟨hD0, rfl⟩, hone⟩ := hu1
  obtain ⟨⟨rfl, _⟩, _⟩ := hu2
  obtain ⟨⟨rfl, hlen, hwl, hnd⟩, hK⟩ := hK
  obtain ⟨⟨xs, φ', k1, k2, k3, k4, k5⟩, _⟩ := hO 0 (by simp)
  by_cases h0 : ts = []
  · subst h0
    obtain ⟨ad, c, e, _⟩ := own_cells k1
    have hc := Go.Proofs.AnyF.slices_SortFunc_none sortF ad c (.func (.func 164) #[] #[]) E0.w
    change Calls Try.prog 163 _ _ _ at hc
    have e' : E0.σ 0 = .slice ad 0 c := e
    rw [e']
    refine hc.mono ?_
    rintro e w' ⟨rfl, rfl⟩
    exact ⟨.tup [], .tuple #[], _, E0, rfl, hK, by simp, rfl, by
      have : sortT [] = [] := by simp [sortT]
      rw [this]
      exact hI, ⟨[], rfl, trivial⟩⟩
  · obtain ⟨hl, h2⟩ := id k1
    rcases h2 with ⟨e, n0⟩ | ⟨g, cap, cur, e, _, hg, hcap, hcm, hcs, htake⟩
    · exact absurd (List.eq_nil_of_length_eq_zero n0) h0
    · obtain ⟨ps, e1, e2, hps⟩ := DR.pairs k2
      have hpl : ts.length = ps.length := by rw [e1, List.length_map]
      have hbg : blkOf (E0.σ 0) = some g := by rw [e]; rfl
      have hQ : ∀ p ∈ ps, SrtQ E0.w g p := fun p hp => by
        obtain ⟨ψ, q1, q2⟩ := hps.mem hp
        exact srtQ_of q1 (fun h => k5 g hbg (q2 g h)) (hwl p.1 (by rw [e1]; exact List.mem_map.2 ⟨p, hp, rfl⟩))
      have hne : ps ≠ [] := fun h => h0 (by rw [e1, h]; rfl)
      have hrun := sort_run (cap := cap) hg hne hQ (by rw [← hpl]; exact hlen) (by rw [hcs, ← hpl]; exact Nat.mul_le_mul_right 2 hcap) (by rw [← hpl, ← e2]; exact htake)
      rw [e, hpl]
      refine hrun.mono ?_
      rintro e' w' ⟨rfl, qs, cur', hp1, hp2, hp3, hp4, hp5, hp6⟩
      have hqs : qs.map (·.1) = sortT ts := by
        have hperm : (qs.map (·.1)).Perm ts := by rw [e1]; exact hp1.map _
        exact (sortT_eq (l := ts) (strict_of hp2 ((hperm.map _).nodup_iff.2 hnd)) hnd (fun x => hperm.symm.mem_iff)).symm
      have hql : qs.length = ts.length := by rw [hp1.length_eq, hpl]
      obtain ⟨E', m1, m2, m3⟩ := hI.upd (i := 0) (b := g) (o := .drow t kTerm ts) rfl rfl ((k4 g).2 (.inl hbg)) hp3 (.drow t kTerm (sortT ts)) (fun E' hle hw => by
        refine ⟨qs.flatMap (·.2), φ', ?_, ?_, by rw [sortT_length]; exact k3, k4, k5⟩
        · rw [sortT_length, e, hw]
          refine ⟨?_, .inr ⟨g, cap, cur', rfl, Nat.zero_le _, hp4, hcap, hcm, by rw [hp5]; exact hcs, by rw [hpl]; exact hp6⟩⟩
          have hm : ts.length * 2 ≤ cap * 2 := Nat.mul_le_mul_right 2 hcap
          have hc2 : cur.size = cap * 2 := hcs
          have e4 : cur'.toList.length = cur'.size := rfl
          show (qs.flatMap (·.2)).length = ts.length * 2
          rw [← hp6, List.length_take, e4]
          omega
        · rw [← hqs]
          refine (DRp.dr (DRp.perm hp1.symm hps)).imp (fun ψ x c hψ h => DRep.move (fun b hb => ?_) h)
          rw [hw]
          exact hp3.block b (DRep.lt h b hb) (fun h => by
            injection h with h
            exact k5 g hbg (h ▸ hψ b hb)))
      exact ⟨.tup [], .tuple #[], [.drow t kTerm (sortT ts)], E', rfl, hK, by simp, m1, m3.congr (fun j => by
        simp only [numb]
        by_cases e0 : 0 = j
        · subst e0; rfl
        · simp only [lk_ne _ _ e0]), ⟨[], rfl, trivial⟩⟩
def c_sortT : Ctr Try.prog := ⟨163, ent Try.func163 rfl rfl, [true], sp_sortT, good_sortT, []⟩
@[go_sem] theorem c_sortT_f : c_sortT.f = 163 := rfl
@[go_sem] theorem c_sortT_ms : c_sortT.ms = [true] := rfl
@[go_sem] theorem c_sortT_sp : c_sortT.spec = sp_sortT := rfl
@[go_sem] theorem c_sortT_fz : c_sortT.fz = [] := rfl
attribute [go_sem] sp_sortT
end Go.Proofs.Ytokakggilajjlaa.V
