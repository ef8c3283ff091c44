/- The seat's types. Conditions: none. -/
import Derived.Test.YtokakggilajjlaaVKf
import Derived.Test.YtokakggilajjlaaProg
import Derived.KernelRfl
namespace Go.Proofs.Ytokakggilajjlaa.V
open Go
attribute [go_sem] act callA ev S.ρ lk numb M.run dof plainB okIB binT boolM binM binI ikB gdst nth Nat.blt Nat.ble pickM retQ resM toRv callM ctr? argsM bwC bwA bwL treeM renA renC renR renO lenM loadM loadN storeH storeI setI openM closeM indexN neB slT getS setS storeM fieldM indexM sliceM cutM allocM boxM makeM litM appM takeO takeL optM takeD hasOwn ownP elemsD litD nestE litN appD appN makeD flatE makeN storeD storeN srcM mmM unM convM convN strM extrM frA frL elems ldR cellsOf tk dr ln fld Kn.toAs Kn.ofAs asI asB asS asL Kn.cells Kn.dflt Kn.flat TD.agg wrapK Tree.run oid flatR flatC flatA flatO castK_rfl Option.map_some Option.map_none List.cons_append List.nil_append reR reC reA reO nw? okCs okA okLA okK okI okV List.map_cons List.map_nil callC callI deepM boxRefs inO inA inL ixL mutIds refsA refsL refsR memB nodupB plainA allB getsM ixn hd tl rn laysM nwL innR ownR reO' reOs reRs reL preB okO okOs evF evFs evP ptrRs valM mkFn mkM capM capsM ptrsM one? castKT_rfl castF_rfl argP argsP pfM cvK cvs capA capC Kn.isPr buildM fillM placeM knownTD idxM pickN nilM cutOwn pf0? pfn? emptyO matS matS1 matR matL matA okMat makeMapM fieldVM lookupM updateM rangeM nextM entryM frzM eqB isAggR
@[go_sem] theorem brB_t (p q : Prop) : brB true p q = p := propext Iff.rfl
@[go_sem] theorem brB_f (p q : Prop) : brB false p q = q := propext Iff.rfl
def y2 : Ty := ⟨2, .int .i64, 1, 8, [.int .i64 0], .int .i64⟩
theorem y2_ok : TyOk Try.prog y2 := ⟨by kernel_rfl, by kernel_rfl⟩
def y3 : Ty := ⟨3, .int .i64, 1, 8, [.int .i64 0], .int .i64⟩
theorem y3_ok : TyOk Try.prog y3 := ⟨by kernel_rfl, by kernel_rfl⟩
def y4 : Ty := ⟨4, .bool, 1, 1, [.bool false], .bool⟩
theorem y4_ok : TyOk Try.prog y4 := ⟨by kernel_rfl, by kernel_rfl⟩
def y5 : Ty := ⟨5, .int .u8, 1, 1, [.int .u8 0], .int .u8⟩
theorem y5_ok : TyOk Try.prog y5 := ⟨by kernel_rfl, by kernel_rfl⟩
def y9 : Ty := ⟨9, .str, 1, 16, [.string ByteArray.empty], .str⟩
theorem y9_ok : TyOk Try.prog y9 := ⟨by kernel_rfl, by kernel_rfl⟩
def y12 : Ty := ⟨12, .int .u64, 1, 8, [.int .u64 0], .int .u64⟩
theorem y12_ok : TyOk Try.prog y12 := ⟨by kernel_rfl, by kernel_rfl⟩
def y13 : Ty := ⟨13, .st [(9, 0), (12, 1)], 2, 24, [.string ByteArray.empty, .int .u64 0], .pr (.str) (.int .u64)⟩
theorem y13_ok : TyOk Try.prog y13 := ⟨by kernel_rfl, by kernel_rfl⟩
def y21 : Ty := ⟨21, .int .i32, 1, 4, [.int .i32 0], .int .i32⟩
theorem y21_ok : TyOk Try.prog y21 := ⟨by kernel_rfl, by kernel_rfl⟩
def y22 : Ty := ⟨22, .sl 114, 1, 24, [.slice none 0 0], .sl 114 (.pr (.sl 2 (.int .i64)) (.int .i64))⟩
theorem y22_ok : TyOk Try.prog y22 := ⟨by kernel_rfl, by kernel_rfl⟩
def y23 : Ty := ⟨23, .st [(2, 0), (22, 1)], 2, 32, [.int .i64 0, .slice none 0 0], .pr (.int .i64) (.sl 114 (.pr (.sl 2 (.int .i64)) (.int .i64)))⟩
theorem y23_ok : TyOk Try.prog y23 := ⟨by kernel_rfl, by kernel_rfl⟩
def y24 : Ty := ⟨24, .st [(2, 0), (22, 1)], 2, 32, [.int .i64 0, .slice none 0 0], .pr (.int .i64) (.sl 114 (.pr (.sl 2 (.int .i64)) (.int .i64)))⟩
theorem y24_ok : TyOk Try.prog y24 := ⟨by kernel_rfl, by kernel_rfl⟩
def y26 : Ty := ⟨26, .sl 68, 1, 24, [.slice none 0 0], .sl 68 (.pr (.sl 2 (.int .i64)) (.int .i64))⟩
theorem y26_ok : TyOk Try.prog y26 := ⟨by kernel_rfl, by kernel_rfl⟩
def y27 : Ty := ⟨27, .st [(2, 0), (26, 1)], 2, 32, [.int .i64 0, .slice none 0 0], .pr (.int .i64) (.sl 68 (.pr (.sl 2 (.int .i64)) (.int .i64)))⟩
theorem y27_ok : TyOk Try.prog y27 := ⟨by kernel_rfl, by kernel_rfl⟩
def y28 : Ty := ⟨28, .st [(2, 0), (26, 1)], 2, 32, [.int .i64 0, .slice none 0 0], .pr (.int .i64) (.sl 68 (.pr (.sl 2 (.int .i64)) (.int .i64)))⟩
theorem y28_ok : TyOk Try.prog y28 := ⟨by kernel_rfl, by kernel_rfl⟩
def y39 : Ty := ⟨39, .sl 2, 1, 24, [.slice none 0 0], .sl 2 (.int .i64)⟩
theorem y39_ok : TyOk Try.prog y39 := ⟨by kernel_rfl, by kernel_rfl⟩
def y45 : Ty := ⟨45, .sl 94, 1, 24, [.slice none 0 0], .sl 94 (.pr (.sl 2 (.int .i64)) (.pr (.sl 2 (.int .i64)) (.int .i64)))⟩
theorem y45_ok : TyOk Try.prog y45 := ⟨by kernel_rfl, by kernel_rfl⟩
def y55 : Ty := ⟨55, .sl 39, 1, 24, [.slice none 0 0], .sl 39 (.sl 2 (.int .i64))⟩
theorem y55_ok : TyOk Try.prog y55 := ⟨by kernel_rfl, by kernel_rfl⟩
def y67 : Ty := ⟨67, .st [(39, 0), (2, 1)], 2, 32, [.slice none 0 0, .int .i64 0], .pr (.sl 2 (.int .i64)) (.int .i64)⟩
theorem y67_ok : TyOk Try.prog y67 := ⟨by kernel_rfl, by kernel_rfl⟩
def y68 : Ty := ⟨68, .st [(39, 0), (2, 1)], 2, 32, [.slice none 0 0, .int .i64 0], .pr (.sl 2 (.int .i64)) (.int .i64)⟩
theorem y68_ok : TyOk Try.prog y68 := ⟨by kernel_rfl, by kernel_rfl⟩
def y86 : Ty := ⟨86, .other, 1, 8, [.nilFunc], .bool⟩
theorem y86_ok : TyOk Try.prog y86 := ⟨by kernel_rfl, by kernel_rfl⟩
def y93 : Ty := ⟨93, .st [(39, 0), (39, 1), (2, 2)], 3, 56, [.slice none 0 0, .slice none 0 0, .int .i64 0], .pr (.sl 2 (.int .i64)) (.pr (.sl 2 (.int .i64)) (.int .i64))⟩
theorem y93_ok : TyOk Try.prog y93 := ⟨by kernel_rfl, by kernel_rfl⟩
def y94 : Ty := ⟨94, .st [(39, 0), (39, 1), (2, 2)], 3, 56, [.slice none 0 0, .slice none 0 0, .int .i64 0], .pr (.sl 2 (.int .i64)) (.pr (.sl 2 (.int .i64)) (.int .i64))⟩
theorem y94_ok : TyOk Try.prog y94 := ⟨by kernel_rfl, by kernel_rfl⟩
def y98 : Ty := ⟨98, .map 100 2, 1, 8, [.map none], .bool⟩
theorem y98_ok : TyOk Try.prog y98 := ⟨by kernel_rfl, by kernel_rfl⟩
def y100 : Ty := ⟨100, .arr 2 9, 2, 32, [.string ByteArray.empty, .string ByteArray.empty], .bool⟩
theorem y100_ok : TyOk Try.prog y100 := ⟨by kernel_rfl, by kernel_rfl⟩
def y108 : Ty := ⟨108, .sl 4, 1, 24, [.slice none 0 0], .sl 4 (.bool)⟩
theorem y108_ok : TyOk Try.prog y108 := ⟨by kernel_rfl, by kernel_rfl⟩
def y114 : Ty := ⟨114, .st [(39, 0), (2, 1)], 2, 32, [.slice none 0 0, .int .i64 0], .pr (.sl 2 (.int .i64)) (.int .i64)⟩
theorem y114_ok : TyOk Try.prog y114 := ⟨by kernel_rfl, by kernel_rfl⟩
def y123 : Ty := ⟨123, .sl 28, 1, 24, [.slice none 0 0], .sl 28 (.pr (.int .i64) (.sl 68 (.pr (.sl 2 (.int .i64)) (.int .i64))))⟩
theorem y123_ok : TyOk Try.prog y123 := ⟨by kernel_rfl, by kernel_rfl⟩
def y131 : Ty := ⟨131, .sl 3, 1, 24, [.slice none 0 0], .sl 3 (.int .i64)⟩
theorem y131_ok : TyOk Try.prog y131 := ⟨by kernel_rfl, by kernel_rfl⟩
def y132 : Ty := ⟨132, .int .u64, 1, 8, [.int .u64 0], .int .u64⟩
theorem y132_ok : TyOk Try.prog y132 := ⟨by kernel_rfl, by kernel_rfl⟩
def y136 : Ty := ⟨136, .map 100 94, 1, 8, [.map none], .bool⟩
theorem y136_ok : TyOk Try.prog y136 := ⟨by kernel_rfl, by kernel_rfl⟩
def y142 : Ty := ⟨142, .sl 5, 1, 24, [.slice none 0 0], .sl 5 (.int .u8)⟩
theorem y142_ok : TyOk Try.prog y142 := ⟨by kernel_rfl, by kernel_rfl⟩
def y149 : Ty := ⟨149, .int .u64, 1, 8, [.int .u64 0], .int .u64⟩
theorem y149_ok : TyOk Try.prog y149 := ⟨by kernel_rfl, by kernel_rfl⟩
def y152 : Ty := ⟨152, .map 9 68, 1, 8, [.map none], .bool⟩
theorem y152_ok : TyOk Try.prog y152 := ⟨by kernel_rfl, by kernel_rfl⟩
def y153 : Ty := ⟨153, .st [(2, 0), (152, 1)], 2, 16, [.int .i64 0, .map none], .bool⟩
theorem y153_ok : TyOk Try.prog y153 := ⟨by kernel_rfl, by kernel_rfl⟩
def y154 : Ty := ⟨154, .st [(2, 0), (152, 1)], 2, 16, [.int .i64 0, .map none], .bool⟩
theorem y154_ok : TyOk Try.prog y154 := ⟨by kernel_rfl, by kernel_rfl⟩
def y159 : Ty := ⟨159, .map 2 3, 1, 8, [.map none], .bool⟩
theorem y159_ok : TyOk Try.prog y159 := ⟨by kernel_rfl, by kernel_rfl⟩
def y160 : Ty := ⟨160, .map 2 2, 1, 8, [.map none], .bool⟩
theorem y160_ok : TyOk Try.prog y160 := ⟨by kernel_rfl, by kernel_rfl⟩
def y175 : Ty := ⟨175, .int .i64, 1, 8, [.int .i64 0], .int .i64⟩
theorem y175_ok : TyOk Try.prog y175 := ⟨by kernel_rfl, by kernel_rfl⟩
def y184 : Ty := ⟨184, .int .u32, 1, 4, [.int .u32 0], .int .u32⟩
theorem y184_ok : TyOk Try.prog y184 := ⟨by kernel_rfl, by kernel_rfl⟩
def y196 : Ty := ⟨196, .arr 2 3, 2, 16, [.int .i64 0, .int .i64 0], .bool⟩
theorem y196_ok : TyOk Try.prog y196 := ⟨by kernel_rfl, by kernel_rfl⟩
def y197 : Ty := ⟨197, .int .u64, 1, 8, [.int .u64 0], .int .u64⟩
theorem y197_ok : TyOk Try.prog y197 := ⟨by kernel_rfl, by kernel_rfl⟩
attribute [go_sem] y2 y3 y4 y5 y9 y12 y13 y21 y22 y23 y24 y26 y27 y28 y39 y45 y55 y67 y68 y86 y93 y94 y98 y100 y108 y114 y123 y131 y132 y136 y142 y149 y152 y153 y154 y159 y160 y175 y184 y196 y197
def tys : List Ty := [y2, y3, y4, y5, y9, y12, y13, y21, y22, y23, y24, y26, y27, y28, y39, y45, y55, y67, y68, y86, y93, y94, y98, y100, y108, y114, y123, y131, y132, y136, y142, y149, y152, y153, y154, y159, y160, y175, y184, y196, y197]
@[go_sem] theorem t2 : ty? tys 2 = some y2 := rfl
@[go_sem] theorem t3 : ty? tys 3 = some y3 := rfl
@[go_sem] theorem t4 : ty? tys 4 = some y4 := rfl
@[go_sem] theorem t5 : ty? tys 5 = some y5 := rfl
@[go_sem] theorem t9 : ty? tys 9 = some y9 := rfl
@[go_sem] theorem t12 : ty? tys 12 = some y12 := rfl
@[go_sem] theorem t13 : ty? tys 13 = some y13 := rfl
@[go_sem] theorem t21 : ty? tys 21 = some y21 := rfl
@[go_sem] theorem t22 : ty? tys 22 = some y22 := rfl
@[go_sem] theorem t23 : ty? tys 23 = some y23 := rfl
@[go_sem] theorem t24 : ty? tys 24 = some y24 := rfl
@[go_sem] theorem t26 : ty? tys 26 = some y26 := rfl
@[go_sem] theorem t27 : ty? tys 27 = some y27 := rfl
@[go_sem] theorem t28 : ty? tys 28 = some y28 := rfl
@[go_sem] theorem t39 : ty? tys 39 = some y39 := rfl
@[go_sem] theorem t45 : ty? tys 45 = some y45 := rfl
@[go_sem] theorem t55 : ty? tys 55 = some y55 := rfl
@[go_sem] theorem t67 : ty? tys 67 = some y67 := rfl
@[go_sem] theorem t68 : ty? tys 68 = some y68 := rfl
@[go_sem] theorem t86 : ty? tys 86 = some y86 := rfl
@[go_sem] theorem t93 : ty? tys 93 = some y93 := rfl
@[go_sem] theorem t94 : ty? tys 94 = some y94 := rfl
@[go_sem] theorem t98 : ty? tys 98 = some y98 := rfl
@[go_sem] theorem t100 : ty? tys 100 = some y100 := rfl
@[go_sem] theorem t108 : ty? tys 108 = some y108 := rfl
@[go_sem] theorem t114 : ty? tys 114 = some y114 := rfl
@[go_sem] theorem t123 : ty? tys 123 = some y123 := rfl
@[go_sem] theorem t131 : ty? tys 131 = some y131 := rfl
@[go_sem] theorem t132 : ty? tys 132 = some y132 := rfl
@[go_sem] theorem t136 : ty? tys 136 = some y136 := rfl
@[go_sem] theorem t142 : ty? tys 142 = some y142 := rfl
@[go_sem] theorem t149 : ty? tys 149 = some y149 := rfl
@[go_sem] theorem t152 : ty? tys 152 = some y152 := rfl
@[go_sem] theorem t153 : ty? tys 153 = some y153 := rfl
@[go_sem] theorem t154 : ty? tys 154 = some y154 := rfl
@[go_sem] theorem t159 : ty? tys 159 = some y159 := rfl
@[go_sem] theorem t160 : ty? tys 160 = some y160 := rfl
@[go_sem] theorem t175 : ty? tys 175 = some y175 := rfl
@[go_sem] theorem t184 : ty? tys 184 = some y184 := rfl
@[go_sem] theorem t196 : ty? tys 196 = some y196 := rfl
@[go_sem] theorem t197 : ty? tys 197 = some y197 := rfl
@[go_sem] theorem e22 : sliceE tys 22 = some y114 := rfl
@[go_sem] theorem e26 : sliceE tys 26 = some y68 := rfl
@[go_sem] theorem e39 : sliceE tys 39 = some y2 := rfl
@[go_sem] theorem e45 : sliceE tys 45 = some y94 := rfl
@[go_sem] theorem e55 : sliceE tys 55 = some y39 := rfl
@[go_sem] theorem e108 : sliceE tys 108 = some y4 := rfl
@[go_sem] theorem e123 : sliceE tys 123 = some y28 := rfl
@[go_sem] theorem e131 : sliceE tys 131 = some y3 := rfl
@[go_sem] theorem e142 : sliceE tys 142 = some y5 := rfl
@[go_sem] theorem m152 : mapE tys 152 = some y68 := rfl
theorem tys_ok : ∀ y ∈ tys, TyOk Try.prog y := by
  intro y h
  simp only [tys, List.mem_cons, List.not_mem_nil, or_false] at h
  rcases h with rfl | rfl | rfl | rfl | rfl | rfl | rfl | rfl | rfl | rfl | rfl | rfl | rfl | rfl | rfl | rfl | rfl | rfl | rfl | rfl | rfl | rfl | rfl | rfl | rfl | rfl | rfl | rfl | rfl | rfl | rfl | rfl | rfl | rfl | rfl | rfl | rfl | rfl | rfl | rfl | rfl
  · exact y2_ok
  · exact y3_ok
  · exact y4_ok
  · exact y5_ok
  · exact y9_ok
  · exact y12_ok
  · exact y13_ok
  · exact y21_ok
  · exact y22_ok
  · exact y23_ok
  · exact y24_ok
  · exact y26_ok
  · exact y27_ok
  · exact y28_ok
  · exact y39_ok
  · exact y45_ok
  · exact y55_ok
  · exact y67_ok
  · exact y68_ok
  · exact y86_ok
  · exact y93_ok
  · exact y94_ok
  · exact y98_ok
  · exact y100_ok
  · exact y108_ok
  · exact y114_ok
  · exact y123_ok
  · exact y131_ok
  · exact y132_ok
  · exact y136_ok
  · exact y142_ok
  · exact y149_ok
  · exact y152_ok
  · exact y153_ok
  · exact y154_ok
  · exact y159_ok
  · exact y160_ok
  · exact y175_ok
  · exact y184_ok
  · exact y196_ok
  · exact y197_ok
theorem mix : Try.prog.follows .mixedOrders = true := by kernel_rfl
/-- The table of a text that calls what is given. -/
def tab (cs : List (Ctr Try.prog)) (p0 : List (PF0 Try.prog) := []) (ps : List (PFn Try.prog) := []) : Tab Try.prog := ⟨tys, tys_ok, ⟨cs, p0, ps⟩, mix⟩
@[go_sem] theorem tab_tys (cs : List (Ctr Try.prog)) (p0 : List (PF0 Try.prog)) (ps : List (PFn Try.prog)) : (tab cs p0 ps).tys = tys := rfl
@[go_sem] theorem tab_ctrs (cs : List (Ctr Try.prog)) (p0 : List (PF0 Try.prog)) (ps : List (PFn Try.prog)) : (tab cs p0 ps).ctrs = ⟨cs, p0, ps⟩ := rfl
theorem entB {f : FuncId} {fn : Func} {c : Code} (hf : Try.prog.funcs[f]? = some fn) (hb : fn.body = some c) (hn : (fn.name == "runtime.NumGoroutine") = false) : EntB Try.prog f := ⟨fn, hf, hn, by rw [hb]; rfl⟩
theorem ent {f : FuncId} {fn : Func} {c : Code} (hf : Try.prog.funcs[f]? = some fn) (hb : fn.body = some c) (hn : (fn.name == "runtime.NumGoroutine") = false) (args : Array Value) (w : World) : (callFunc f args).run Try.prog w = .ok (.enter f args) w := by
  have h1 : ¬ (fn.name = "runtime.NumGoroutine") := by simpa using hn
  simp [callFunc, hf, h1, hb]
end Go.Proofs.Ytokakggilajjlaa.V
