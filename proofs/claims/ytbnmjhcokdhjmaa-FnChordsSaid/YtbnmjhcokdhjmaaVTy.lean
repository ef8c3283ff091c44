/- The seat's types. Conditions: none. -/
import Derived.Test.YtbnmjhcokdhjmaaVKf
import Derived.Test.YtbnmjhcokdhjmaaProg
import Derived.KernelRfl
namespace Go.Proofs.Ytbnmjhcokdhjmaa.V
open Go
attribute [go_sem] act callA ev S.ρ lk numb M.run dof plainB okIB binT boolM binM binI ikB gdst nth Nat.blt Nat.ble pickM retQ resM toRv callM ctr? argsM bwC bwA bwL treeM renA renC renR renO lenM loadM loadN storeH storeI setI openM closeM indexN neB slT getS setS storeM fieldM indexM sliceM cutM allocM boxM makeM litM appM takeO takeL optM takeD hasOwn ownP elemsD litD nestE litN valsV plO plL plainF appD appN makeD flatE makeN storeD storeN srcM mmM unM convM convN strM extrM frA frL elems ldR cellsOf tk dr ln fld Kn.toAs Kn.ofAs asI asB asS asL Kn.cells Kn.dflt Kn.flat TD.agg wrapK Tree.run oid flatR flatC flatA flatO castK_rfl Option.map_some Option.map_none List.cons_append List.nil_append reR reC reA reO nw? okCs okA okLA okK okI okV List.map_cons List.map_nil callC callI deepM boxRefs inO inA inL ixL mutIds refsA refsL refsR memB nodupB plainA allB getsM ixn hd tl rn laysM nwL innR ownR reO' reOs reRs reL preB okO okOs evF evFs evP ptrRs valM mkFn mkM capM capsM ptrsM one? castKT_rfl castF_rfl argP argsP pfM cvK cvs capA capC Kn.isPr buildM fillM placeM knownTD idxM pickN nilM cutOwn pf0? pfn? emptyO matS matS1 matR matL matA okMat makeMapM fieldVM lookupM updateM rangeM nextM entryM frzM eqB isAggR
@[go_sem] theorem brB_t (p q : Prop) : brB true p q = p := propext Iff.rfl
@[go_sem] theorem brB_f (p q : Prop) : brB false p q = q := propext Iff.rfl
def y2 : Ty := ⟨2, .int .i64, 1, 8, [.int .i64 0], .int .i64⟩
theorem y2_ok : TyOk Try.prog y2 := ⟨by kernel_rfl, by kernel_rfl⟩
def y3 : Ty := ⟨3, .int .i64, 1, 8, [.int .i64 0], .int .i64⟩
theorem y3_ok : TyOk Try.prog y3 := ⟨by kernel_rfl, by kernel_rfl⟩
def y4 : Ty := ⟨4, .bool, 1, 1, [.bool false], .bool⟩
theorem y4_ok : TyOk Try.prog y4 := ⟨by kernel_rfl, by kernel_rfl⟩
def y5 : Ty := ⟨5, .int .u8, 1, 1, [.int .u8 0], .int .u8⟩
theorem y5_ok : TyOk Try.prog y5 := ⟨by kernel_rfl, by kernel_rfl⟩
def y9 : Ty := ⟨9, .str, 1, 16, [.string ByteArray.empty], .str⟩
theorem y9_ok : TyOk Try.prog y9 := ⟨by kernel_rfl, by kernel_rfl⟩
def y12 : Ty := ⟨12, .int .u64, 1, 8, [.int .u64 0], .int .u64⟩
theorem y12_ok : TyOk Try.prog y12 := ⟨by kernel_rfl, by kernel_rfl⟩
def y13 : Ty := ⟨13, .st [(9, 0), (12, 1)], 2, 24, [.string ByteArray.empty, .int .u64 0], .pr (.str) (.int .u64)⟩
theorem y13_ok : TyOk Try.prog y13 := ⟨by kernel_rfl, by kernel_rfl⟩
def y21 : Ty := ⟨21, .int .i32, 1, 4, [.int .i32 0], .int .i32⟩
theorem y21_ok : TyOk Try.prog y21 := ⟨by kernel_rfl, by kernel_rfl⟩
def y24 : Ty := ⟨24, .other, 1, 8, [.nilFunc], .bool⟩
theorem y24_ok : TyOk Try.prog y24 := ⟨by kernel_rfl, by kernel_rfl⟩
def y25 : Ty := ⟨25, .sl 5, 1, 24, [.slice none 0 0], .sl 5 (.int .u8)⟩
theorem y25_ok : TyOk Try.prog y25 := ⟨by kernel_rfl, by kernel_rfl⟩
def y27 : Ty := ⟨27, .sl 2, 1, 24, [.slice none 0 0], .sl 2 (.int .i64)⟩
theorem y27_ok : TyOk Try.prog y27 := ⟨by kernel_rfl, by kernel_rfl⟩
def y39 : Ty := ⟨39, .sl 27, 1, 24, [.slice none 0 0], .sl 27 (.sl 2 (.int .i64))⟩
theorem y39_ok : TyOk Try.prog y39 := ⟨by kernel_rfl, by kernel_rfl⟩
def y48 : Ty := ⟨48, .other, 1, 8, [.nilFunc], .bool⟩
theorem y48_ok : TyOk Try.prog y48 := ⟨by kernel_rfl, by kernel_rfl⟩
def y69 : Ty := ⟨69, .sl 4, 1, 24, [.slice none 0 0], .sl 4 (.bool)⟩
theorem y69_ok : TyOk Try.prog y69 := ⟨by kernel_rfl, by kernel_rfl⟩
def y83 : Ty := ⟨83, .int .u64, 1, 8, [.int .u64 0], .int .u64⟩
theorem y83_ok : TyOk Try.prog y83 := ⟨by kernel_rfl, by kernel_rfl⟩
def y84 : Ty := ⟨84, .st [(25, 0), (3, 1), (83, 2)], 3, 40, [.slice none 0 0, .int .i64 0, .int .u64 0], .pr (.sl 5 (.int .u8)) (.pr (.int .i64) (.int .u64))⟩
theorem y84_ok : TyOk Try.prog y84 := ⟨by kernel_rfl, by kernel_rfl⟩
def y85 : Ty := ⟨85, .st [(25, 0), (3, 1), (83, 2)], 3, 40, [.slice none 0 0, .int .i64 0, .int .u64 0], .pr (.sl 5 (.int .u8)) (.pr (.int .i64) (.int .u64))⟩
theorem y85_ok : TyOk Try.prog y85 := ⟨by kernel_rfl, by kernel_rfl⟩
def y87 : Ty := ⟨87, .int .u64, 1, 8, [.int .u64 0], .int .u64⟩
theorem y87_ok : TyOk Try.prog y87 := ⟨by kernel_rfl, by kernel_rfl⟩
def y90 : Ty := ⟨90, .map 2 3, 1, 8, [.map none], .bool⟩
theorem y90_ok : TyOk Try.prog y90 := ⟨by kernel_rfl, by kernel_rfl⟩
def y91 : Ty := ⟨91, .map 2 2, 1, 8, [.map none], .bool⟩
theorem y91_ok : TyOk Try.prog y91 := ⟨by kernel_rfl, by kernel_rfl⟩
def y99 : Ty := ⟨99, .int .i64, 1, 8, [.int .i64 0], .int .i64⟩
theorem y99_ok : TyOk Try.prog y99 := ⟨by kernel_rfl, by kernel_rfl⟩
def y107 : Ty := ⟨107, .int .u32, 1, 4, [.int .u32 0], .int .u32⟩
theorem y107_ok : TyOk Try.prog y107 := ⟨by kernel_rfl, by kernel_rfl⟩
def y109 : Ty := ⟨109, .int .u64, 1, 8, [.int .u64 0], .int .u64⟩
theorem y109_ok : TyOk Try.prog y109 := ⟨by kernel_rfl, by kernel_rfl⟩
attribute [go_sem] y2 y3 y4 y5 y9 y12 y13 y21 y24 y25 y27 y39 y48 y69 y83 y84 y85 y87 y90 y91 y99 y107 y109
def tys : List Ty := [y2, y3, y4, y5, y9, y12, y13, y21, y24, y25, y27, y39, y48, y69, y83, y84, y85, y87, y90, y91, y99, y107, y109]
@[go_sem] theorem t2 : ty? tys 2 = some y2 := rfl
@[go_sem] theorem t3 : ty? tys 3 = some y3 := rfl
@[go_sem] theorem t4 : ty? tys 4 = some y4 := rfl
@[go_sem] theorem t5 : ty? tys 5 = some y5 := rfl
@[go_sem] theorem t9 : ty? tys 9 = some y9 := rfl
@[go_sem] theorem t12 : ty? tys 12 = some y12 := rfl
@[go_sem] theorem t13 : ty? tys 13 = some y13 := rfl
@[go_sem] theorem t21 : ty? tys 21 = some y21 := rfl
@[go_sem] theorem t24 : ty? tys 24 = some y24 := rfl
@[go_sem] theorem t25 : ty? tys 25 = some y25 := rfl
@[go_sem] theorem t27 : ty? tys 27 = some y27 := rfl
@[go_sem] theorem t39 : ty? tys 39 = some y39 := rfl
@[go_sem] theorem t48 : ty? tys 48 = some y48 := rfl
@[go_sem] theorem t69 : ty? tys 69 = some y69 := rfl
@[go_sem] theorem t83 : ty? tys 83 = some y83 := rfl
@[go_sem] theorem t84 : ty? tys 84 = some y84 := rfl
@[go_sem] theorem t85 : ty? tys 85 = some y85 := rfl
@[go_sem] theorem t87 : ty? tys 87 = some y87 := rfl
@[go_sem] theorem t90 : ty? tys 90 = some y90 := rfl
@[go_sem] theorem t91 : ty? tys 91 = some y91 := rfl
@[go_sem] theorem t99 : ty? tys 99 = some y99 := rfl
@[go_sem] theorem t107 : ty? tys 107 = some y107 := rfl
@[go_sem] theorem t109 : ty? tys 109 = some y109 := rfl
@[go_sem] theorem e25 : sliceE tys 25 = some y5 := rfl
@[go_sem] theorem e27 : sliceE tys 27 = some y2 := rfl
@[go_sem] theorem e39 : sliceE tys 39 = some y27 := rfl
@[go_sem] theorem e69 : sliceE tys 69 = some y4 := rfl
theorem tys_ok : ∀ y ∈ tys, TyOk Try.prog y := by
  intro y h
  simp only [tys, List.mem_cons, List.not_mem_nil, or_false] at h
  rcases h with rfl | rfl | rfl | rfl | rfl | rfl | rfl | rfl | rfl | rfl | rfl | rfl | rfl | rfl | rfl | rfl | rfl | rfl | rfl | rfl | rfl | rfl | rfl
  · exact y2_ok
  · exact y3_ok
  · exact y4_ok
  · exact y5_ok
  · exact y9_ok
  · exact y12_ok
  · exact y13_ok
  · exact y21_ok
  · exact y24_ok
  · exact y25_ok
  · exact y27_ok
  · exact y39_ok
  · exact y48_ok
  · exact y69_ok
  · exact y83_ok
  · exact y84_ok
  · exact y85_ok
  · exact y87_ok
  · exact y90_ok
  · exact y91_ok
  · exact y99_ok
  · exact y107_ok
  · exact y109_ok
theorem mix : Try.prog.follows .mixedOrders = true := by kernel_rfl
/-- The table of a text that calls what is given. -/
def tab (cs : List (Ctr Try.prog)) (p0 : List (PF0 Try.prog) := []) (ps : List (PFn Try.prog) := []) : Tab Try.prog := ⟨tys, tys_ok, ⟨cs, p0, ps⟩, mix⟩
@[go_sem] theorem tab_tys (cs : List (Ctr Try.prog)) (p0 : List (PF0 Try.prog)) (ps : List (PFn Try.prog)) : (tab cs p0 ps).tys = tys := rfl
@[go_sem] theorem tab_ctrs (cs : List (Ctr Try.prog)) (p0 : List (PF0 Try.prog)) (ps : List (PFn Try.prog)) : (tab cs p0 ps).ctrs = ⟨cs, p0, ps⟩ := rfl
theorem entB {f : FuncId} {fn : Func} {c : Code} (hf : Try.prog.funcs[f]? = some fn) (hb : fn.body = some c) (hn : (fn.name == "runtime.NumGoroutine") = false) : EntB Try.prog f := ⟨fn, hf, hn, by rw [hb]; rfl⟩
theorem ent {f : FuncId} {fn : Func} {c : Code} (hf : Try.prog.funcs[f]? = some fn) (hb : fn.body = some c) (hn : (fn.name == "runtime.NumGoroutine") = false) (args : Array Value) (w : World) : (callFunc f args).run Try.prog w = .ok (.enter f args) w := by
  have h1 : ¬ (fn.name = "runtime.NumGoroutine") := by simpa using hn
  simp [callFunc, hf, h1, hb]
end Go.Proofs.Ytbnmjhcokdhjmaa.V
