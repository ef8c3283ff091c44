/- The seat's types. Conditions: none. -/
import Derived.Test.YthfmlelodmcgkaaGreatVKf
import Derived.Test.YthfmlelodmcgkaaGreatProg
import Derived.KernelRfl
namespace Go.Proofs.YthfmlelodmcgkaaGreat.V
open Go
attribute [go_sem] act callA ev S.ρ lk numb M.run dof plainB okIB binT boolM binM binI ikB gdst nth Nat.blt Nat.ble pickM retQ resM toRv callM ctr? argsM bwC bwA bwL treeM renA renC renR renO lenM loadM loadN storeH storeI setI openM takeM closeM indexN neB slT getS setS storeM fieldM indexM sliceM cutM allocM boxM makeM litM appM takeO takeL optM takeD hasOwn ownP elemsD litD nestE litN valsV plO plL plainF appD appN makeD flatE makeN storeD storeN srcM mmM unM convM convN strM extrM frA frL elems ldR cellsOf tk dr ln fld Kn.toAs Kn.ofAs asI asB asS asL Kn.cells Kn.dflt Kn.flat TD.agg wrapK Tree.run oid flatR flatC flatA flatO castK_rfl Option.map_some Option.map_none List.cons_append List.nil_append reR reC reA reO nw? okCs okA okLA okK okI okV List.map_cons List.map_nil callC callI dd deepC nx boxRefs inO inA inL ixL mutIds refsA refsL refsR memB nodupB plainA allB getsM ixn hd tl rn laysM nwL innR ownR reO' reOs reRs reL preB okO okOs evF evFs evP ptrRs valM mkFn mkM capM capsM ptrsM one? castKT_rfl castF_rfl argP argsP pfM cvK cvs capA capC Kn.isPr buildM fillM placeM knownTD idxM pickN nilM cutOwn pf0? pfn? emptyO matS matS1 matR matL matA okMat makeMapM fieldVM lookupM updateM rangeM nextM entryM frzM eqB isAggR
@[go_sem] theorem brB_t (p q : Prop) : brB true p q = p := propext Iff.rfl
@[go_sem] theorem brB_f (p q : Prop) : brB false p q = q := propext Iff.rfl
def y2 : Ty := ⟨2, .int .i64, 1, 8, [.int .i64 0], .int .i64⟩
theorem y2_ok : TyOk Tryz.prog y2 := ⟨by kernel_rfl, by kernel_rfl⟩
def y3 : Ty := ⟨3, .int .i64, 1, 8, [.int .i64 0], .int .i64⟩
theorem y3_ok : TyOk Tryz.prog y3 := ⟨by kernel_rfl, by kernel_rfl⟩
def y4 : Ty := ⟨4, .bool, 1, 1, [.bool false], .bool⟩
theorem y4_ok : TyOk Tryz.prog y4 := ⟨by kernel_rfl, by kernel_rfl⟩
def y5 : Ty := ⟨5, .int .u8, 1, 1, [.int .u8 0], .int .u8⟩
theorem y5_ok : TyOk Tryz.prog y5 := ⟨by kernel_rfl, by kernel_rfl⟩
def y9 : Ty := ⟨9, .str, 1, 16, [.string ByteArray.empty], .str⟩
theorem y9_ok : TyOk Tryz.prog y9 := ⟨by kernel_rfl, by kernel_rfl⟩
def y12 : Ty := ⟨12, .int .u64, 1, 8, [.int .u64 0], .int .u64⟩
theorem y12_ok : TyOk Tryz.prog y12 := ⟨by kernel_rfl, by kernel_rfl⟩
def y13 : Ty := ⟨13, .st [(9, 0), (12, 1)], 2, 24, [.string ByteArray.empty, .int .u64 0], .pr (.str) (.int .u64)⟩
theorem y13_ok : TyOk Tryz.prog y13 := ⟨by kernel_rfl, by kernel_rfl⟩
def y21 : Ty := ⟨21, .int .i32, 1, 4, [.int .i32 0], .int .i32⟩
theorem y21_ok : TyOk Tryz.prog y21 := ⟨by kernel_rfl, by kernel_rfl⟩
def y22 : Ty := ⟨22, .sl 84, 1, 24, [.slice none 0 0], .sl 84 (.pr (.sl 2 (.int .i64)) (.int .i64))⟩
theorem y22_ok : TyOk Tryz.prog y22 := ⟨by kernel_rfl, by kernel_rfl⟩
def y23 : Ty := ⟨23, .st [(2, 0), (22, 1)], 2, 32, [.int .i64 0, .slice none 0 0], .pr (.int .i64) (.sl 84 (.pr (.sl 2 (.int .i64)) (.int .i64)))⟩
theorem y23_ok : TyOk Tryz.prog y23 := ⟨by kernel_rfl, by kernel_rfl⟩
def y24 : Ty := ⟨24, .st [(2, 0), (22, 1)], 2, 32, [.int .i64 0, .slice none 0 0], .pr (.int .i64) (.sl 84 (.pr (.sl 2 (.int .i64)) (.int .i64)))⟩
theorem y24_ok : TyOk Tryz.prog y24 := ⟨by kernel_rfl, by kernel_rfl⟩
def y26 : Ty := ⟨26, .sl 2, 1, 24, [.slice none 0 0], .sl 2 (.int .i64)⟩
theorem y26_ok : TyOk Tryz.prog y26 := ⟨by kernel_rfl, by kernel_rfl⟩
def y29 : Ty := ⟨29, .sl 87, 1, 24, [.slice none 0 0], .sl 87 (.pr (.sl 2 (.int .i64)) (.int .i64))⟩
theorem y29_ok : TyOk Tryz.prog y29 := ⟨by kernel_rfl, by kernel_rfl⟩
def y30 : Ty := ⟨30, .st [(2, 0), (29, 1)], 2, 32, [.int .i64 0, .slice none 0 0], .pr (.int .i64) (.sl 87 (.pr (.sl 2 (.int .i64)) (.int .i64)))⟩
theorem y30_ok : TyOk Tryz.prog y30 := ⟨by kernel_rfl, by kernel_rfl⟩
def y31 : Ty := ⟨31, .st [(2, 0), (29, 1)], 2, 32, [.int .i64 0, .slice none 0 0], .pr (.int .i64) (.sl 87 (.pr (.sl 2 (.int .i64)) (.int .i64)))⟩
theorem y31_ok : TyOk Tryz.prog y31 := ⟨by kernel_rfl, by kernel_rfl⟩
def y40 : Ty := ⟨40, .other, 1, 8, [.nilFunc], .bool⟩
theorem y40_ok : TyOk Tryz.prog y40 := ⟨by kernel_rfl, by kernel_rfl⟩
def y43 : Ty := ⟨43, .other, 1, 8, [.nilFunc], .bool⟩
theorem y43_ok : TyOk Tryz.prog y43 := ⟨by kernel_rfl, by kernel_rfl⟩
def y44 : Ty := ⟨44, .sl 26, 1, 24, [.slice none 0 0], .sl 26 (.sl 2 (.int .i64))⟩
theorem y44_ok : TyOk Tryz.prog y44 := ⟨by kernel_rfl, by kernel_rfl⟩
def y75 : Ty := ⟨75, .sl 3, 1, 24, [.slice none 0 0], .sl 3 (.int .i64)⟩
theorem y75_ok : TyOk Tryz.prog y75 := ⟨by kernel_rfl, by kernel_rfl⟩
def y83 : Ty := ⟨83, .st [(26, 0), (2, 1)], 2, 32, [.slice none 0 0, .int .i64 0], .pr (.sl 2 (.int .i64)) (.int .i64)⟩
theorem y83_ok : TyOk Tryz.prog y83 := ⟨by kernel_rfl, by kernel_rfl⟩
def y84 : Ty := ⟨84, .st [(26, 0), (2, 1)], 2, 32, [.slice none 0 0, .int .i64 0], .pr (.sl 2 (.int .i64)) (.int .i64)⟩
theorem y84_ok : TyOk Tryz.prog y84 := ⟨by kernel_rfl, by kernel_rfl⟩
def y85 : Ty := ⟨85, .sl 31, 1, 24, [.slice none 0 0], .sl 31 (.pr (.int .i64) (.sl 87 (.pr (.sl 2 (.int .i64)) (.int .i64))))⟩
theorem y85_ok : TyOk Tryz.prog y85 := ⟨by kernel_rfl, by kernel_rfl⟩
def y87 : Ty := ⟨87, .st [(26, 0), (2, 1)], 2, 32, [.slice none 0 0, .int .i64 0], .pr (.sl 2 (.int .i64)) (.int .i64)⟩
theorem y87_ok : TyOk Tryz.prog y87 := ⟨by kernel_rfl, by kernel_rfl⟩
def y94 : Ty := ⟨94, .other, 1, 8, [.nilFunc], .bool⟩
theorem y94_ok : TyOk Tryz.prog y94 := ⟨by kernel_rfl, by kernel_rfl⟩
def y98 : Ty := ⟨98, .other, 1, 8, [.nilFunc], .bool⟩
theorem y98_ok : TyOk Tryz.prog y98 := ⟨by kernel_rfl, by kernel_rfl⟩
def y107 : Ty := ⟨107, .other, 1, 8, [.nilFunc], .bool⟩
theorem y107_ok : TyOk Tryz.prog y107 := ⟨by kernel_rfl, by kernel_rfl⟩
def y131 : Ty := ⟨131, .int .u64, 1, 8, [.int .u64 0], .int .u64⟩
theorem y131_ok : TyOk Tryz.prog y131 := ⟨by kernel_rfl, by kernel_rfl⟩
def y132 : Ty := ⟨132, .map 9 87, 1, 8, [.map none], .bool⟩
theorem y132_ok : TyOk Tryz.prog y132 := ⟨by kernel_rfl, by kernel_rfl⟩
def y133 : Ty := ⟨133, .st [(2, 0), (132, 1)], 2, 16, [.int .i64 0, .map none], .bool⟩
theorem y133_ok : TyOk Tryz.prog y133 := ⟨by kernel_rfl, by kernel_rfl⟩
def y134 : Ty := ⟨134, .st [(2, 0), (132, 1)], 2, 16, [.int .i64 0, .map none], .bool⟩
theorem y134_ok : TyOk Tryz.prog y134 := ⟨by kernel_rfl, by kernel_rfl⟩
def y144 : Ty := ⟨144, .int .i64, 1, 8, [.int .i64 0], .int .i64⟩
theorem y144_ok : TyOk Tryz.prog y144 := ⟨by kernel_rfl, by kernel_rfl⟩
def y152 : Ty := ⟨152, .int .u32, 1, 4, [.int .u32 0], .int .u32⟩
theorem y152_ok : TyOk Tryz.prog y152 := ⟨by kernel_rfl, by kernel_rfl⟩
def y154 : Ty := ⟨154, .int .u64, 1, 8, [.int .u64 0], .int .u64⟩
theorem y154_ok : TyOk Tryz.prog y154 := ⟨by kernel_rfl, by kernel_rfl⟩
def y155 : Ty := ⟨155, .sl 5, 1, 24, [.slice none 0 0], .sl 5 (.int .u8)⟩
theorem y155_ok : TyOk Tryz.prog y155 := ⟨by kernel_rfl, by kernel_rfl⟩
def y159 : Ty := ⟨159, .map 2 2, 1, 8, [.map none], .bool⟩
theorem y159_ok : TyOk Tryz.prog y159 := ⟨by kernel_rfl, by kernel_rfl⟩
def y163 : Ty := ⟨163, .int .u64, 1, 8, [.int .u64 0], .int .u64⟩
theorem y163_ok : TyOk Tryz.prog y163 := ⟨by kernel_rfl, by kernel_rfl⟩
def y175 : Ty := ⟨175, .map 2 3, 1, 8, [.map none], .bool⟩
theorem y175_ok : TyOk Tryz.prog y175 := ⟨by kernel_rfl, by kernel_rfl⟩
def y176 : Ty := ⟨176, .other, 1, 8, [.nilFunc], .bool⟩
theorem y176_ok : TyOk Tryz.prog y176 := ⟨by kernel_rfl, by kernel_rfl⟩
attribute [go_sem] y2 y3 y4 y5 y9 y12 y13 y21 y22 y23 y24 y26 y29 y30 y31 y40 y43 y44 y75 y83 y84 y85 y87 y94 y98 y107 y131 y132 y133 y134 y144 y152 y154 y155 y159 y163 y175 y176
def tys : List Ty := [y2, y3, y4, y5, y9, y12, y13, y21, y22, y23, y24, y26, y29, y30, y31, y40, y43, y44, y75, y83, y84, y85, y87, y94, y98, y107, y131, y132, y133, y134, y144, y152, y154, y155, y159, y163, y175, y176]
@[go_sem] theorem t2 : ty? tys 2 = some y2 := rfl
@[go_sem] theorem t3 : ty? tys 3 = some y3 := rfl
@[go_sem] theorem t4 : ty? tys 4 = some y4 := rfl
@[go_sem] theorem t5 : ty? tys 5 = some y5 := rfl
@[go_sem] theorem t9 : ty? tys 9 = some y9 := rfl
@[go_sem] theorem t12 : ty? tys 12 = some y12 := rfl
@[go_sem] theorem t13 : ty? tys 13 = some y13 := rfl
@[go_sem] theorem t21 : ty? tys 21 = some y21 := rfl
@[go_sem] theorem t22 : ty? tys 22 = some y22 := rfl
@[go_sem] theorem t23 : ty? tys 23 = some y23 := rfl
@[go_sem] theorem t24 : ty? tys 24 = some y24 := rfl
@[go_sem] theorem t26 : ty? tys 26 = some y26 := rfl
@[go_sem] theorem t29 : ty? tys 29 = some y29 := rfl
@[go_sem] theorem t30 : ty? tys 30 = some y30 := rfl
@[go_sem] theorem t31 : ty? tys 31 = some y31 := rfl
@[go_sem] theorem t40 : ty? tys 40 = some y40 := rfl
@[go_sem] theorem t43 : ty? tys 43 = some y43 := rfl
@[go_sem] theorem t44 : ty? tys 44 = some y44 := rfl
@[go_sem] theorem t75 : ty? tys 75 = some y75 := rfl
@[go_sem] theorem t83 : ty? tys 83 = some y83 := rfl
@[go_sem] theorem t84 : ty? tys 84 = some y84 := rfl
@[go_sem] theorem t85 : ty? tys 85 = some y85 := rfl
@[go_sem] theorem t87 : ty? tys 87 = some y87 := rfl
@[go_sem] theorem t94 : ty? tys 94 = some y94 := rfl
@[go_sem] theorem t98 : ty? tys 98 = some y98 := rfl
@[go_sem] theorem t107 : ty? tys 107 = some y107 := rfl
@[go_sem] theorem t131 : ty? tys 131 = some y131 := rfl
@[go_sem] theorem t132 : ty? tys 132 = some y132 := rfl
@[go_sem] theorem t133 : ty? tys 133 = some y133 := rfl
@[go_sem] theorem t134 : ty? tys 134 = some y134 := rfl
@[go_sem] theorem t144 : ty? tys 144 = some y144 := rfl
@[go_sem] theorem t152 : ty? tys 152 = some y152 := rfl
@[go_sem] theorem t154 : ty? tys 154 = some y154 := rfl
@[go_sem] theorem t155 : ty? tys 155 = some y155 := rfl
@[go_sem] theorem t159 : ty? tys 159 = some y159 := rfl
@[go_sem] theorem t163 : ty? tys 163 = some y163 := rfl
@[go_sem] theorem t175 : ty? tys 175 = some y175 := rfl
@[go_sem] theorem t176 : ty? tys 176 = some y176 := rfl
@[go_sem] theorem e22 : sliceE tys 22 = some y84 := rfl
@[go_sem] theorem e26 : sliceE tys 26 = some y2 := rfl
@[go_sem] theorem e29 : sliceE tys 29 = some y87 := rfl
@[go_sem] theorem e44 : sliceE tys 44 = some y26 := rfl
@[go_sem] theorem e75 : sliceE tys 75 = some y3 := rfl
@[go_sem] theorem e85 : sliceE tys 85 = some y31 := rfl
@[go_sem] theorem e155 : sliceE tys 155 = some y5 := rfl
@[go_sem] theorem m132 : mapE tys 132 = some y87 := rfl
theorem tys_ok : ∀ y ∈ tys, TyOk Tryz.prog y := by
  intro y h
  simp only [tys, List.mem_cons, List.not_mem_nil, or_false] at h
  rcases h with rfl | rfl | rfl | rfl | rfl | rfl | rfl | rfl | rfl | rfl | rfl | rfl | rfl | rfl | rfl | rfl | rfl | rfl | rfl | rfl | rfl | rfl | rfl | rfl | rfl | rfl | rfl | rfl | rfl | rfl | rfl | rfl | rfl | rfl | rfl | rfl | rfl | rfl
  · exact y2_ok
  · exact y3_ok
  · exact y4_ok
  · exact y5_ok
  · exact y9_ok
  · exact y12_ok
  · exact y13_ok
  · exact y21_ok
  · exact y22_ok
  · exact y23_ok
  · exact y24_ok
  · exact y26_ok
  · exact y29_ok
  · exact y30_ok
  · exact y31_ok
  · exact y40_ok
  · exact y43_ok
  · exact y44_ok
  · exact y75_ok
  · exact y83_ok
  · exact y84_ok
  · exact y85_ok
  · exact y87_ok
  · exact y94_ok
  · exact y98_ok
  · exact y107_ok
  · exact y131_ok
  · exact y132_ok
  · exact y133_ok
  · exact y134_ok
  · exact y144_ok
  · exact y152_ok
  · exact y154_ok
  · exact y155_ok
  · exact y159_ok
  · exact y163_ok
  · exact y175_ok
  · exact y176_ok
theorem mix : Tryz.prog.follows .mixedOrders = true := by kernel_rfl
/-- The table of a text that calls what is given. -/
def tab (cs : List (Ctr Tryz.prog)) (p0 : List (PF0 Tryz.prog) := []) (ps : List (PFn Tryz.prog) := []) : Tab Tryz.prog := ⟨tys, tys_ok, ⟨cs, p0, ps⟩, mix⟩
@[go_sem] theorem tab_tys (cs : List (Ctr Tryz.prog)) (p0 : List (PF0 Tryz.prog)) (ps : List (PFn Tryz.prog)) : (tab cs p0 ps).tys = tys := rfl
@[go_sem] theorem tab_ctrs (cs : List (Ctr Tryz.prog)) (p0 : List (PF0 Tryz.prog)) (ps : List (PFn Tryz.prog)) : (tab cs p0 ps).ctrs = ⟨cs, p0, ps⟩ := rfl
theorem entB {f : FuncId} {fn : Func} {c : Code} (hf : Tryz.prog.funcs[f]? = some fn) (hb : fn.body = some c) (hn : (fn.name == "runtime.NumGoroutine") = false) : EntB Tryz.prog f := ⟨fn, hf, hn, by rw [hb]; rfl⟩
theorem ent {f : FuncId} {fn : Func} {c : Code} (hf : Tryz.prog.funcs[f]? = some fn) (hb : fn.body = some c) (hn : (fn.name == "runtime.NumGoroutine") = false) (args : Array Value) (w : World) : (callFunc f args).run Tryz.prog w = .ok (.enter f args) w := by
  have h1 : ¬ (fn.name = "runtime.NumGoroutine") := by simpa using hn
  simp [callFunc, hf, h1, hb]
end Go.Proofs.YthfmlelodmcgkaaGreat.V
