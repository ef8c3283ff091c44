/- The seat's types. Conditions: none. -/
import Derived.Test.YtihfncjpfgdhoaaVKf
import Derived.Test.YtihfncjpfgdhoaaProg
import Derived.KernelRfl
namespace Go.Proofs.Ytihfncjpfgdhoaa.V
open Go
attribute [go_sem] act callA ev S.ρ lk numb M.run dof plainB okIB binT boolM binM binI ikB gdst nth Nat.blt Nat.ble pickM retQ resM toRv callM ctr? argsM bwC bwA bwL treeM renA renC renR renO lenM loadM loadN storeH storeI setI openM closeM indexN neB slT getS setS storeM fieldM indexM sliceM cutM allocM boxM makeM litM appM takeO takeL optM takeD hasOwn ownP elemsD litD nestE litN appD appN makeD flatE makeN storeD storeN srcM mmM unM convM convN strM extrM frA frL elems ldR cellsOf tk dr ln fld Kn.toAs Kn.ofAs asI asB asS asL Kn.cells Kn.dflt Kn.flat TD.agg wrapK Tree.run oid flatR flatC flatA flatO castK_rfl Option.map_some Option.map_none List.cons_append List.nil_append reR reC reA reO nw? okCs okA okLA okK okI okV List.map_cons List.map_nil callC callI deepM boxRefs inO inA inL ixL mutIds refsA refsL refsR memB nodupB plainA allB getsM ixn hd tl rn laysM nwL innR ownR reO' reOs reRs reL preB okO okOs evF evFs evP ptrRs valM mkFn mkM capM capsM ptrsM one? castKT_rfl castF_rfl argP argsP pfM cvK cvs capA capC Kn.isPr buildM fillM placeM knownTD idxM pickN nilM cutOwn pf0? pfn? emptyO matS matS1 matR matL matA okMat makeMapM fieldVM lookupM updateM rangeM nextM entryM frzM eqB isAggR
@[go_sem] theorem brB_t (p q : Prop) : brB true p q = p := propext Iff.rfl
@[go_sem] theorem brB_f (p q : Prop) : brB false p q = q := propext Iff.rfl
def y2 : Ty := ⟨2, .int .i64, 1, 8, [.int .i64 0], .int .i64⟩
theorem y2_ok : TyOk Try.prog y2 := ⟨by kernel_rfl, by kernel_rfl⟩
def y3 : Ty := ⟨3, .int .i64, 1, 8, [.int .i64 0], .int .i64⟩
theorem y3_ok : TyOk Try.prog y3 := ⟨by kernel_rfl, by kernel_rfl⟩
def y4 : Ty := ⟨4, .bool, 1, 1, [.bool false], .bool⟩
theorem y4_ok : TyOk Try.prog y4 := ⟨by kernel_rfl, by kernel_rfl⟩
def y5 : Ty := ⟨5, .int .u8, 1, 1, [.int .u8 0], .int .u8⟩
theorem y5_ok : TyOk Try.prog y5 := ⟨by kernel_rfl, by kernel_rfl⟩
def y9 : Ty := ⟨9, .str, 1, 16, [.string ByteArray.empty], .str⟩
theorem y9_ok : TyOk Try.prog y9 := ⟨by kernel_rfl, by kernel_rfl⟩
def y12 : Ty := ⟨12, .int .u64, 1, 8, [.int .u64 0], .int .u64⟩
theorem y12_ok : TyOk Try.prog y12 := ⟨by kernel_rfl, by kernel_rfl⟩
def y13 : Ty := ⟨13, .st [(9, 0), (12, 1)], 2, 24, [.string ByteArray.empty, .int .u64 0], .pr (.str) (.int .u64)⟩
theorem y13_ok : TyOk Try.prog y13 := ⟨by kernel_rfl, by kernel_rfl⟩
def y21 : Ty := ⟨21, .int .i32, 1, 4, [.int .i32 0], .int .i32⟩
theorem y21_ok : TyOk Try.prog y21 := ⟨by kernel_rfl, by kernel_rfl⟩
def y22 : Ty := ⟨22, .sl 2, 1, 24, [.slice none 0 0], .sl 2 (.int .i64)⟩
theorem y22_ok : TyOk Try.prog y22 := ⟨by kernel_rfl, by kernel_rfl⟩
def y29 : Ty := ⟨29, .st [(22, 0), (22, 1), (22, 2)], 3, 72, [.slice none 0 0, .slice none 0 0, .slice none 0 0], .pr (.sl 2 (.int .i64)) (.pr (.sl 2 (.int .i64)) (.sl 2 (.int .i64)))⟩
theorem y29_ok : TyOk Try.prog y29 := ⟨by kernel_rfl, by kernel_rfl⟩
def y30 : Ty := ⟨30, .st [(22, 0), (22, 1), (22, 2)], 3, 72, [.slice none 0 0, .slice none 0 0, .slice none 0 0], .pr (.sl 2 (.int .i64)) (.pr (.sl 2 (.int .i64)) (.sl 2 (.int .i64)))⟩
theorem y30_ok : TyOk Try.prog y30 := ⟨by kernel_rfl, by kernel_rfl⟩
def y34 : Ty := ⟨34, .st [(22, 0), (22, 1), (22, 2)], 3, 72, [.slice none 0 0, .slice none 0 0, .slice none 0 0], .pr (.sl 2 (.int .i64)) (.pr (.sl 2 (.int .i64)) (.sl 2 (.int .i64)))⟩
theorem y34_ok : TyOk Try.prog y34 := ⟨by kernel_rfl, by kernel_rfl⟩
def y51 : Ty := ⟨51, .other, 1, 8, [.nilFunc], .bool⟩
theorem y51_ok : TyOk Try.prog y51 := ⟨by kernel_rfl, by kernel_rfl⟩
def y76 : Ty := ⟨76, .other, 1, 8, [.nilFunc], .bool⟩
theorem y76_ok : TyOk Try.prog y76 := ⟨by kernel_rfl, by kernel_rfl⟩
def y78 : Ty := ⟨78, .int .u64, 1, 8, [.int .u64 0], .int .u64⟩
theorem y78_ok : TyOk Try.prog y78 := ⟨by kernel_rfl, by kernel_rfl⟩
def y80 : Ty := ⟨80, .sl 4, 1, 24, [.slice none 0 0], .sl 4 (.bool)⟩
theorem y80_ok : TyOk Try.prog y80 := ⟨by kernel_rfl, by kernel_rfl⟩
def y84 : Ty := ⟨84, .map 2 4, 1, 8, [.map none], .bool⟩
theorem y84_ok : TyOk Try.prog y84 := ⟨by kernel_rfl, by kernel_rfl⟩
def y85 : Ty := ⟨85, .sl 22, 1, 24, [.slice none 0 0], .sl 22 (.sl 2 (.int .i64))⟩
theorem y85_ok : TyOk Try.prog y85 := ⟨by kernel_rfl, by kernel_rfl⟩
def y100 : Ty := ⟨100, .map 2 3, 1, 8, [.map none], .bool⟩
theorem y100_ok : TyOk Try.prog y100 := ⟨by kernel_rfl, by kernel_rfl⟩
def y101 : Ty := ⟨101, .map 2 2, 1, 8, [.map none], .bool⟩
theorem y101_ok : TyOk Try.prog y101 := ⟨by kernel_rfl, by kernel_rfl⟩
def y104 : Ty := ⟨104, .sl 3, 1, 24, [.slice none 0 0], .sl 3 (.int .i64)⟩
theorem y104_ok : TyOk Try.prog y104 := ⟨by kernel_rfl, by kernel_rfl⟩
def y109 : Ty := ⟨109, .arr 2 3, 2, 16, [.int .i64 0, .int .i64 0], .bool⟩
theorem y109_ok : TyOk Try.prog y109 := ⟨by kernel_rfl, by kernel_rfl⟩
def y118 : Ty := ⟨118, .int .u32, 1, 4, [.int .u32 0], .int .u32⟩
theorem y118_ok : TyOk Try.prog y118 := ⟨by kernel_rfl, by kernel_rfl⟩
attribute [go_sem] y2 y3 y4 y5 y9 y12 y13 y21 y22 y29 y30 y34 y51 y76 y78 y80 y84 y85 y100 y101 y104 y109 y118
def tys : List Ty := [y2, y3, y4, y5, y9, y12, y13, y21, y22, y29, y30, y34, y51, y76, y78, y80, y84, y85, y100, y101, y104, y109, y118]
@[go_sem] theorem t2 : ty? tys 2 = some y2 := rfl
@[go_sem] theorem t3 : ty? tys 3 = some y3 := rfl
@[go_sem] theorem t4 : ty? tys 4 = some y4 := rfl
@[go_sem] theorem t5 : ty? tys 5 = some y5 := rfl
@[go_sem] theorem t9 : ty? tys 9 = some y9 := rfl
@[go_sem] theorem t12 : ty? tys 12 = some y12 := rfl
@[go_sem] theorem t13 : ty? tys 13 = some y13 := rfl
@[go_sem] theorem t21 : ty? tys 21 = some y21 := rfl
@[go_sem] theorem t22 : ty? tys 22 = some y22 := rfl
@[go_sem] theorem t29 : ty? tys 29 = some y29 := rfl
@[go_sem] theorem t30 : ty? tys 30 = some y30 := rfl
@[go_sem] theorem t34 : ty? tys 34 = some y34 := rfl
@[go_sem] theorem t51 : ty? tys 51 = some y51 := rfl
@[go_sem] theorem t76 : ty? tys 76 = some y76 := rfl
@[go_sem] theorem t78 : ty? tys 78 = some y78 := rfl
@[go_sem] theorem t80 : ty? tys 80 = some y80 := rfl
@[go_sem] theorem t84 : ty? tys 84 = some y84 := rfl
@[go_sem] theorem t85 : ty? tys 85 = some y85 := rfl
@[go_sem] theorem t100 : ty? tys 100 = some y100 := rfl
@[go_sem] theorem t101 : ty? tys 101 = some y101 := rfl
@[go_sem] theorem t104 : ty? tys 104 = some y104 := rfl
@[go_sem] theorem t109 : ty? tys 109 = some y109 := rfl
@[go_sem] theorem t118 : ty? tys 118 = some y118 := rfl
@[go_sem] theorem e22 : sliceE tys 22 = some y2 := rfl
@[go_sem] theorem e80 : sliceE tys 80 = some y4 := rfl
@[go_sem] theorem e85 : sliceE tys 85 = some y22 := rfl
@[go_sem] theorem e104 : sliceE tys 104 = some y3 := rfl
theorem tys_ok : ∀ y ∈ tys, TyOk Try.prog y := by
  intro y h
  simp only [tys, List.mem_cons, List.not_mem_nil, or_false] at h
  rcases h with rfl | rfl | rfl | rfl | rfl | rfl | rfl | rfl | rfl | rfl | rfl | rfl | rfl | rfl | rfl | rfl | rfl | rfl | rfl | rfl | rfl | rfl | rfl
  · exact y2_ok
  · exact y3_ok
  · exact y4_ok
  · exact y5_ok
  · exact y9_ok
  · exact y12_ok
  · exact y13_ok
  · exact y21_ok
  · exact y22_ok
  · exact y29_ok
  · exact y30_ok
  · exact y34_ok
  · exact y51_ok
  · exact y76_ok
  · exact y78_ok
  · exact y80_ok
  · exact y84_ok
  · exact y85_ok
  · exact y100_ok
  · exact y101_ok
  · exact y104_ok
  · exact y109_ok
  · exact y118_ok
theorem mix : Try.prog.follows .mixedOrders = true := by kernel_rfl
/-- The table of a text that calls what is given. -/
def tab (cs : List (Ctr Try.prog)) (p0 : List (PF0 Try.prog) := []) (ps : List (PFn Try.prog) := []) : Tab Try.prog := ⟨tys, tys_ok, ⟨cs, p0, ps⟩, mix⟩
@[go_sem] theorem tab_tys (cs : List (Ctr Try.prog)) (p0 : List (PF0 Try.prog)) (ps : List (PFn Try.prog)) : (tab cs p0 ps).tys = tys := rfl
@[go_sem] theorem tab_ctrs (cs : List (Ctr Try.prog)) (p0 : List (PF0 Try.prog)) (ps : List (PFn Try.prog)) : (tab cs p0 ps).ctrs = ⟨cs, p0, ps⟩ := rfl
theorem entB {f : FuncId} {fn : Func} {c : Code} (hf : Try.prog.funcs[f]? = some fn) (hb : fn.body = some c) (hn : (fn.name == "runtime.NumGoroutine") = false) : EntB Try.prog f := ⟨fn, hf, hn, by rw [hb]; rfl⟩
theorem ent {f : FuncId} {fn : Func} {c : Code} (hf : Try.prog.funcs[f]? = some fn) (hb : fn.body = some c) (hn : (fn.name == "runtime.NumGoroutine") = false) (args : Array Value) (w : World) : (callFunc f args).run Try.prog w = .ok (.enter f args) w := by
  have h1 : ¬ (fn.name = "runtime.NumGoroutine") := by simpa using hn
  simp [callFunc, hf, h1, hb]
end Go.Proofs.Ytihfncjpfgdhoaa.V
