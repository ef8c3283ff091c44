/- Texts over states, step by step: what is still to come is kept as a list of frames. Conditions: none. -/
import Derived.Test.YthfmlelodmcgkaaGreatVRun
set_option linter.unusedVariables false
set_option linter.unusedSimpArgs false
set_option linter.unusedSectionVars false
namespace Go.Proofs.YthfmlelodmcgkaaGreat.V
open Go
inductive Fr where
  | seq (b : Code) | block (id : Nat) | loop (R : S → Prop)
def drawOk (all : List Oper) (ts : List (List Nat × List Nat)) : Bool := drawB all (ancs all []) ts
section
variable {P : Program} (T : Tab P) (X : Ctx) (Q : Exit → S → Prop)
/-- What is owed of an end, the frames being given. -/
def KF : List Fr → Exit → S → Prop
  | [], e, s => Q e s
  | .seq b :: fs, e, s => match e with
    | .normal => vc T X b s (KF fs)
    | e => KF fs e s
  | .block id :: fs, e, s => match e with
    | .exit id' => match Nat.beq id' id with
      | true => KF fs .normal s
      | false => KF fs e s
    | e => KF fs e s
  | .loop R :: fs, e, s => match e with
    | .normal => R s
    | e => KF fs e s
def vcF (c : Code) (s : S) (fs : List Fr) : Prop := vc T X c s (KF T X Q fs)
def opsF (all r : List Oper) (s : S) (fs : List Fr) : Prop := vcOps T all r s (KF T X Q fs .normal)
def opsTF (all r : List Oper) (s : S) (ts : List (List Nat × List Nat)) (fs : List Fr) : Prop := vcOpsT T all r s ts fun s' ts => drawOk all ts = true ∧ KF T X Q fs .normal s'
def putF (d : Option Nat) (v : Rv) (os : List (Nat × Obj')) (all r : List Oper) (s : S) (fs : List Fr) : Prop := s.to d v os fun s' => opsF T X Q all r s' fs
def putTF (d : Option Nat) (v : Rv) (os : List (Nat × Obj')) (t : List Nat × List Nat) (all r : List Oper) (s : S) (ts : List (List Nat × List Nat)) (fs : List Fr) : Prop := s.to d v os fun s' => opsTF T X Q all r s' (ts ++ [t]) fs
def runF (m : M) (os : List (Nat × Obj')) (d : Option Nat) (all r : List Oper) (s : S) (fs : List Fr) : Prop := m.run os fun v os' => putF T X Q d v os' all r s fs
def runTF (m : M) (os : List (Nat × Obj')) (R W : List Nat) (d : Option Nat) (all r : List Oper) (s : S) (ts : List (List Nat × List Nat)) (fs : List Fr) : Prop := m.runT os R W fun v os' R W => putTF T X Q d v os' (R, W) all r s ts fs
def got (o : Option Obj') (k : Obj' → Prop) : Prop :=
  match o with
  | some o => k o
  | none => False
def fresh (o : Option Obj') (p : Prop) : Prop :=
  match o with
  | none => p
  | some _ => False
def within (b : Bool) (p : Prop) : Prop :=
  match b with
  | true => p
  | false => False
def condF (x : Rv) (a b : Code) (s : S) (fs : List Fr) : Prop :=
  match x with
  | .val (.one (.v (.bool t))) => brB t (vcF T X Q a s fs) (vcF T X Q b s fs)
  | _ => False
def guardF (c : Rv) (b : Bool) (g : Nat) (m : (Nat → Rv) → M) (d : Option Nat) (all r : List Oper) (s : S) (fs : List Fr) : Prop :=
  match c with
  | .val (.one (.v (.bool c))) => match b with
    | true => brB c (runF T X Q (m (S.ρ ⟨s.n, (g, .val (.one (.v (.bool true)))) :: s.rs, s.os⟩)) s.os d all r ⟨s.n, (g, .val (.one (.v (.bool true)))) :: s.rs, s.os⟩ fs) (putF T X Q d (.tup []) s.os all r ⟨s.n, (g, .val (.one (.v (.bool false)))) :: s.rs, s.os⟩ fs)
    | false => brB c (putF T X Q d (.tup []) s.os all r ⟨s.n, (g, .val (.one (.v (.bool true)))) :: s.rs, s.os⟩ fs) (runF T X Q (m (S.ρ ⟨s.n, (g, .val (.one (.v (.bool false)))) :: s.rs, s.os⟩)) s.os d all r ⟨s.n, (g, .val (.one (.v (.bool false)))) :: s.rs, s.os⟩ fs)
  | .tup [] => putF T X Q d (.tup []) s.os all r s fs
  | _ => False
def guardTF (c : Rv) (b : Bool) (g : Nat) (m : (Nat → Rv) → M) (d : Option Nat) (all r : List Oper) (s : S) (ts : List (List Nat × List Nat)) (fs : List Fr) : Prop :=
  match c with
  | .val (.one (.v (.bool c))) => match b with
    | true => brB c (runTF T X Q (m (S.ρ ⟨s.n, (g, .val (.one (.v (.bool true)))) :: s.rs, s.os⟩)) s.os [] [] d all r ⟨s.n, (g, .val (.one (.v (.bool true)))) :: s.rs, s.os⟩ ts fs) (putTF T X Q d (.tup []) s.os ([], []) all r ⟨s.n, (g, .val (.one (.v (.bool false)))) :: s.rs, s.os⟩ ts fs)
    | false => brB c (putTF T X Q d (.tup []) s.os ([], []) all r ⟨s.n, (g, .val (.one (.v (.bool true)))) :: s.rs, s.os⟩ ts fs) (runTF T X Q (m (S.ρ ⟨s.n, (g, .val (.one (.v (.bool false)))) :: s.rs, s.os⟩)) s.os [] [] d all r ⟨s.n, (g, .val (.one (.v (.bool false)))) :: s.rs, s.os⟩ ts fs)
  | .tup [] => putTF T X Q d (.tup []) s.os ([], []) all r s ts fs
  | _ => False
def gOf (g : Option Nat) (k : Nat → Prop) : Prop :=
  match g with
  | some g => k g
  | none => False
variable (fs : List Fr) (s : S) (all r : List Oper) (os : List (Nat × Obj')) (d : Option Nat)
@[go_sem] theorem kf_nil (e : Exit) : KF T X Q [] e s = Q e s := propext Iff.rfl
@[go_sem] theorem kf_seq_n (b : Code) : KF T X Q (.seq b :: fs) .normal s = vcF T X Q b s fs := propext Iff.rfl
@[go_sem] theorem kf_seq_x (b : Code) (id : Nat) : KF T X Q (.seq b :: fs) (.exit id) s = KF T X Q fs (.exit id) s := propext Iff.rfl
@[go_sem] theorem kf_seq_r (b : Code) : KF T X Q (.seq b :: fs) .ret s = KF T X Q fs .ret s := propext Iff.rfl
@[go_sem] theorem kf_block_n (id : Nat) : KF T X Q (.block id :: fs) .normal s = KF T X Q fs .normal s := propext Iff.rfl
@[go_sem] theorem kf_block_x (id id' : Nat) (h : Nat.beq id' id = true) : KF T X Q (.block id :: fs) (.exit id') s = KF T X Q fs .normal s := by
  simp only [KF, h]
@[go_sem] theorem kf_block_y (id id' : Nat) (h : Nat.beq id' id = false) : KF T X Q (.block id :: fs) (.exit id') s = KF T X Q fs (.exit id') s := by
  simp only [KF, h]
@[go_sem] theorem kf_block_r (id : Nat) : KF T X Q (.block id :: fs) .ret s = KF T X Q fs .ret s := propext Iff.rfl
@[go_sem] theorem kf_loop_n (R : S → Prop) : KF T X Q (.loop R :: fs) .normal s = R s := propext Iff.rfl
@[go_sem] theorem kf_loop_x (R : S → Prop) (id : Nat) : KF T X Q (.loop R :: fs) (.exit id) s = KF T X Q fs (.exit id) s := propext Iff.rfl
@[go_sem] theorem kf_loop_r (R : S → Prop) : KF T X Q (.loop R :: fs) .ret s = KF T X Q fs .ret s := propext Iff.rfl
@[go_sem] theorem vcf_skip : vcF T X Q .skip s fs = KF T X Q fs .normal s := propext Iff.rfl
@[go_sem] theorem vcf_region (id : Nat) (ops : Array Oper) : vcF T X Q (.region id ops false) s fs = opsF T X Q ops.toList ops.toList s fs := propext Iff.rfl
@[go_sem] theorem vcf_regionT (id : Nat) (ops : Array Oper) : vcF T X Q (.region id ops true) s fs = opsTF T X Q ops.toList ops.toList s [] fs := propext Iff.rfl
@[go_sem] theorem vcf_seq (a b : Code) : vcF T X Q (.seq a b) s fs = vcF T X Q a s (.seq b :: fs) := propext Iff.rfl
@[go_sem] theorem vcf_cond (c : Operand) (a b : Code) : vcF T X Q (.cond c a b) s fs = condF T X Q (ev s.ρ c) a b s fs := by
  simp only [vcF, vc, condF]
  generalize ev s.ρ c = x
  rcases x with (a | _) | _ <;> rfl
@[go_sem] theorem vcf_block (id : Nat) (c : Code) : vcF T X Q (.block id c) s fs = vcF T X Q c s (.block id :: fs) := propext Iff.rfl
@[go_sem] theorem vcf_loop (c : Code) : vcF T X Q (.loop c) s fs = Holds P X (.loop c) s (KF T X Q fs) := propext Iff.rfl
@[go_sem] theorem vcf_exit (id : Nat) : vcF T X Q (.exit id) s fs = KF T X Q fs (.exit id) s := propext Iff.rfl
@[go_sem] theorem vcf_ret : vcF T X Q .ret s fs = KF T X Q fs .ret s := propext Iff.rfl
@[go_sem] theorem cond_b (t : Bool) (a b : Code) : condF T X Q (.val (.one (.v (.bool t)))) a b s fs = brB t (vcF T X Q a s fs) (vcF T X Q b s fs) := propext Iff.rfl
@[go_sem] theorem opsf_nil : opsF T X Q all [] s fs = KF T X Q fs .normal s := propext Iff.rfl
@[go_sem] theorem opsf_cons (op : Op) (ty : TypeId) (pos : String) (af : Array Edge) : opsF T X Q all (⟨d, op, ty, pos, af, none⟩ :: r) s fs = runF T X Q (act T.tys T.ctrs (dof d) s.ρ op) s.os d all r s fs := propext Iff.rfl
@[go_sem] theorem opsf_guard (op : Op) (ty : TypeId) (pos : String) (af : Array Edge) (j : Nat) (b : Bool) : opsF T X Q all (⟨d, op, ty, pos, af, some (j, b)⟩ :: r) s fs = gOf (gdst all j) fun g => guardF T X Q (s.ρ g) b g (fun ρ => act T.tys T.ctrs (dof d) ρ op) d all r s fs := by
  simp only [opsF, vcOps, gOf]
  cases gdst all j with
  | none => rfl
  | some g =>
    simp only [guardF]
    generalize s.ρ g = x
    rcases x with (a | _) | _ <;> rfl
@[go_sem] theorem gof_s (g : Nat) (k : Nat → Prop) : gOf (some g) k = k g := propext Iff.rfl
@[go_sem] theorem guardf_t (c : Bool) (g : Nat) (m : (Nat → Rv) → M) : guardF T X Q (.val (.one (.v (.bool c)))) true g m d all r s fs = brB c (runF T X Q (m (S.ρ ⟨s.n, (g, .val (.one (.v (.bool true)))) :: s.rs, s.os⟩)) s.os d all r ⟨s.n, (g, .val (.one (.v (.bool true)))) :: s.rs, s.os⟩ fs) (putF T X Q d (.tup []) s.os all r ⟨s.n, (g, .val (.one (.v (.bool false)))) :: s.rs, s.os⟩ fs) := propext Iff.rfl
@[go_sem] theorem guardf_f (c : Bool) (g : Nat) (m : (Nat → Rv) → M) : guardF T X Q (.val (.one (.v (.bool c)))) false g m d all r s fs = brB c (putF T X Q d (.tup []) s.os all r ⟨s.n, (g, .val (.one (.v (.bool true)))) :: s.rs, s.os⟩ fs) (runF T X Q (m (S.ρ ⟨s.n, (g, .val (.one (.v (.bool false)))) :: s.rs, s.os⟩)) s.os d all r ⟨s.n, (g, .val (.one (.v (.bool false)))) :: s.rs, s.os⟩ fs) := propext Iff.rfl
@[go_sem] theorem guardf_s (b : Bool) (g : Nat) (m : (Nat → Rv) → M) : guardF T X Q (.tup []) b g m d all r s fs = putF T X Q d (.tup []) s.os all r s fs := propext Iff.rfl
@[go_sem] theorem runf_ret (v : Rv) : runF T X Q (.ret v) os d all r s fs = putF T X Q d v os all r s fs := propext Iff.rfl
@[go_sem] theorem runf_need (p : Prop) (k : M) : runF T X Q (.need p k) os d all r s fs = (p ∧ runF T X Q k os d all r s fs) := propext Iff.rfl
@[go_sem] theorem runf_br (b : Bool) (k1 k2 : M) : runF T X Q (.br b k1 k2) os d all r s fs = brB b (runF T X Q k1 os d all r s fs) (runF T X Q k2 os d all r s fs) := propext Iff.rfl
@[go_sem] theorem runf_get (i : Nat) (k : Obj' → M) : runF T X Q (.get i k) os d all r s fs = got (lk os i) fun o => runF T X Q (k o) os d all r s fs := by
  simp only [runF, M.run, got]
  cases lk os i <;> rfl
@[go_sem] theorem runf_put (i : Nat) (o : Obj') (k : M) : runF T X Q (.put i o k) os d all r s fs = got (lk os i) fun _ => runF T X Q k ((i, o) :: os) d all r s fs := by
  simp only [runF, M.run, got]
  cases lk os i <;> rfl
@[go_sem] theorem runf_new (i : Nat) (o : Obj') (k : M) : runF T X Q (.new i o k) os d all r s fs = fresh (lk os i) (runF T X Q k ((i, o) :: os) d all r s fs) := by
  simp only [runF, M.run, fresh]
  cases lk os i <;> rfl
@[go_sem] theorem runf_fail : runF T X Q .fail os d all r s fs = False := propext Iff.rfl
@[go_sem] theorem runf_all (n : Nat) (k : Nat → M) : runF T X Q (.all n k) os d all r s fs = ∀ j, j < n → runF T X Q (k j) os d all r s fs := propext Iff.rfl
@[go_sem] theorem runf_any (p : List Int → Prop) (k : List Int → M) : runF T X Q (.any p k) os d all r s fs = ∀ x, p x → runF T X Q (k x) os d all r s fs := propext Iff.rfl
@[go_sem] theorem got_s (o : Obj') (k : Obj' → Prop) : got (some o) k = k o := propext Iff.rfl
@[go_sem] theorem fresh_n (p : Prop) : fresh none p = p := propext Iff.rfl
@[go_sem] theorem putf_n (v : Rv) (n : Nat) (rs : List (Nat × Rv)) (os' : List (Nat × Obj')) : putF T X Q none v os all r ⟨n, rs, os'⟩ fs = opsF T X Q all r ⟨n, rs, os⟩ fs := propext Iff.rfl
@[go_sem] theorem putf_s (v : Rv) (t n : Nat) (rs : List (Nat × Rv)) (os' : List (Nat × Obj')) : putF T X Q (some t) v os all r ⟨n, rs, os'⟩ fs = within (Nat.blt t n) (opsF T X Q all r ⟨n, (t, v) :: rs, os⟩ fs) := by
  simp only [putF, S.to, within]
  cases Nat.blt t n <;> rfl
@[go_sem] theorem within_t (p : Prop) : within true p = p := propext Iff.rfl
variable (ts : List (List Nat × List Nat)) (R W : List Nat)
@[go_sem] theorem opstf_nil : opsTF T X Q all [] s ts fs = (drawOk all ts = true ∧ KF T X Q fs .normal s) := propext Iff.rfl
@[go_sem] theorem opstf_cons (op : Op) (ty : TypeId) (pos : String) (af : Array Edge) : opsTF T X Q all (⟨d, op, ty, pos, af, none⟩ :: r) s ts fs = runTF T X Q (act T.tys T.ctrs (dof d) s.ρ op) s.os [] [] d all r s ts fs := propext Iff.rfl
@[go_sem] theorem opstf_guard (op : Op) (ty : TypeId) (pos : String) (af : Array Edge) (j : Nat) (b : Bool) : opsTF T X Q all (⟨d, op, ty, pos, af, some (j, b)⟩ :: r) s ts fs = gOf (gdst all j) fun g => guardTF T X Q (s.ρ g) b g (fun ρ => act T.tys T.ctrs (dof d) ρ op) d all r s ts fs := by
  simp only [opsTF, vcOpsT, gOf]
  cases gdst all j with
  | none => rfl
  | some g =>
    simp only [guardTF]
    generalize s.ρ g = x
    rcases x with (a | _) | _ <;> rfl
@[go_sem] theorem guardtf_t (c : Bool) (g : Nat) (m : (Nat → Rv) → M) : guardTF T X Q (.val (.one (.v (.bool c)))) true g m d all r s ts fs = brB c (runTF T X Q (m (S.ρ ⟨s.n, (g, .val (.one (.v (.bool true)))) :: s.rs, s.os⟩)) s.os [] [] d all r ⟨s.n, (g, .val (.one (.v (.bool true)))) :: s.rs, s.os⟩ ts fs) (putTF T X Q d (.tup []) s.os ([], []) all r ⟨s.n, (g, .val (.one (.v (.bool false)))) :: s.rs, s.os⟩ ts fs) := propext Iff.rfl
@[go_sem] theorem guardtf_f (c : Bool) (g : Nat) (m : (Nat → Rv) → M) : guardTF T X Q (.val (.one (.v (.bool c)))) false g m d all r s ts fs = brB c (putTF T X Q d (.tup []) s.os ([], []) all r ⟨s.n, (g, .val (.one (.v (.bool true)))) :: s.rs, s.os⟩ ts fs) (runTF T X Q (m (S.ρ ⟨s.n, (g, .val (.one (.v (.bool false)))) :: s.rs, s.os⟩)) s.os [] [] d all r ⟨s.n, (g, .val (.one (.v (.bool false)))) :: s.rs, s.os⟩ ts fs) := propext Iff.rfl
@[go_sem] theorem guardtf_s (b : Bool) (g : Nat) (m : (Nat → Rv) → M) : guardTF T X Q (.tup []) b g m d all r s ts fs = putTF T X Q d (.tup []) s.os ([], []) all r s ts fs := propext Iff.rfl
@[go_sem] theorem runtf_ret (v : Rv) : runTF T X Q (.ret v) os R W d all r s ts fs = putTF T X Q d v os (R, W) all r s ts fs := propext Iff.rfl
@[go_sem] theorem runtf_need (p : Prop) (k : M) : runTF T X Q (.need p k) os R W d all r s ts fs = (p ∧ runTF T X Q k os R W d all r s ts fs) := propext Iff.rfl
@[go_sem] theorem runtf_br (b : Bool) (k1 k2 : M) : runTF T X Q (.br b k1 k2) os R W d all r s ts fs = brB b (runTF T X Q k1 os R W d all r s ts fs) (runTF T X Q k2 os R W d all r s ts fs) := propext Iff.rfl
@[go_sem] theorem runtf_get (i : Nat) (k : Obj' → M) : runTF T X Q (.get i k) os R W d all r s ts fs = got (lk os i) fun o => runTF T X Q (k o) os (i :: R) W d all r s ts fs := by
  simp only [runTF, M.runT, got]
  cases lk os i <;> rfl
@[go_sem] theorem runtf_put (i : Nat) (o : Obj') (k : M) : runTF T X Q (.put i o k) os R W d all r s ts fs = got (lk os i) fun _ => runTF T X Q k ((i, o) :: os) (i :: R) (i :: W) d all r s ts fs := by
  simp only [runTF, M.runT, got]
  cases lk os i <;> rfl
@[go_sem] theorem runtf_new (i : Nat) (o : Obj') (k : M) : runTF T X Q (.new i o k) os R W d all r s ts fs = fresh (lk os i) (runTF T X Q k ((i, o) :: os) (i :: R) (i :: W) d all r s ts fs) := by
  simp only [runTF, M.runT, fresh]
  cases lk os i <;> rfl
@[go_sem] theorem runtf_all (n : Nat) (k : Nat → M) : runTF T X Q (.all n k) os R W d all r s ts fs = False := propext Iff.rfl
@[go_sem] theorem runtf_any (p : List Int → Prop) (k : List Int → M) : runTF T X Q (.any p k) os R W d all r s ts fs = False := propext Iff.rfl
@[go_sem] theorem runtf_fail : runTF T X Q .fail os R W d all r s ts fs = False := propext Iff.rfl
@[go_sem] theorem puttf_n (v : Rv) (n : Nat) (rs : List (Nat × Rv)) (os' : List (Nat × Obj')) (t : List Nat × List Nat) : putTF T X Q none v os t all r ⟨n, rs, os'⟩ ts fs = opsTF T X Q all r ⟨n, rs, os⟩ (ts ++ [t]) fs := propext Iff.rfl
@[go_sem] theorem puttf_s (v : Rv) (x n : Nat) (rs : List (Nat × Rv)) (os' : List (Nat × Obj')) (t : List Nat × List Nat) : putTF T X Q (some x) v os t all r ⟨n, rs, os'⟩ ts fs = within (Nat.blt x n) (opsTF T X Q all r ⟨n, (x, v) :: rs, os⟩ (ts ++ [t]) fs) := by
  simp only [putTF, S.to, within]
  cases Nat.blt x n <;> rfl
end
/-- A contract, by its function's text. -/
theorem good_ofF {P : Program} {f : FuncId} {fn : Func} {c : Code} {sp : List Cv → List Obj' → Tree} (hf : P.funcs[f]? = some fn) (hb : fn.body = some c) (n : Nat) (hn : fn.ntmps = n) (res : List ResultVar) (hres : fn.results.toList = res) (T : Tab P)
    (h : ∀ (X : Ctx) (cs : List Cv) (os0 : List Obj') (K : Rv → List Obj' → Prop), okCs cs → okOs os0 → (sp cs os0).run K → cs.length ≤ n ∧ (∀ x ∈ cs, x ≠ .one .undef) ∧ vcF T X (retQ P os0.length T.tys res K) c ⟨n, numb 0 (cs.map .val), numb 0 os0⟩ []) : Good P f sp :=
  good_of hf hb n hn res hres T h
theorem loop_okF {P : Program} {X : Ctx} {T : Tab P} {Q : Exit → S → Prop} {fs : List Fr} {c : Code} {s : S} {α : Type} (ts : List Nat) (ids : List (Nat × Nat)) (I : α → S) (p : α → Prop) (μ : α → Nat) (x0 : α) (hi : okN ids s.os = true) (h0 : reS ids ts s = I x0) (hp : p x0)
    (h : ∀ x, p x → vcF T X Q c (I x) (.loop (fun s' => ∃ y ids', p y ∧ μ y < μ x ∧ okN ids' s'.os = true ∧ reS ids' ts s' = I y) :: fs)) : Holds P X (.loop c) s (KF T X Q fs) := by
  refine loop_sub (T := T) I p μ x0 (h0 ▸ sub_re ids ts hi) hp (fun x => KF T X Q (.loop (fun s' => ∃ y ids', p y ∧ μ y < μ x ∧ okN ids' s'.os = true ∧ reS ids' ts s' = I y) :: fs)) h (fun x e s' hh => ?_)
  cases e with
  | normal =>
    obtain ⟨y, ids', h1, h2, h3, h4⟩ := hh
    exact ⟨y, h1, h2, h4 ▸ sub_re ids' ts h3⟩
  | exit id => exact hh
  | goto l => exact hh
  | ret => exact hh
  | panic c => exact hh
  | outgrown => exact hh
end Go.Proofs.YthfmlelodmcgkaaGreat.V
