/- The functions that these laws reach, as trees: printed by this session's own program. -/
import Derived.Test.YtgilfigaimndkaaDoorEv26
import Derived.Test.YtgilfigaimndkaaDoorProg
import Derived.KernelRfl
namespace Go.Proofs.YtgilfigaimndkaaDoor.Tab
set_option linter.all false
open Go Go.Proofs.YtgilfigaimndkaaDoor.Ev
-- LAW wherry/wherrylaw11.PathLong 7 [3, 5] [4]
/-! wherry/wherrylaw11.PathLong -/
def b7_0 : LC := .nx [(.t 0), (.t 1), (.t 2)]
def b7_1 : LC := .op (.len true (.t 2)) none <| .op (.bin .lss (.t 0) (.c (.int .i64 64))) none <| .cond (.t 0) (.join [0, 1, 5] (.block 1 (.op (.lit false 1 1 [.int .u8 0] [(0, 1, (.t 3))]) none <| .op (.b2s (.t 0)) none <| .op (.bin .add (.t 6) (.t 0)) none <| .nx [(.t 5), (.t 6), (.t 0)])) b7_0) (.exit 0 [(.t 2), (.t 4)])
def b7_2 : LC := .op (.bin .eql (.t 1) (.t 4)) none <| .sel 4 (.t 0) true (.op (.bin .eql (.t 1) (.c (.int .i64 0))) none <| .op (.beq false (.t 4) (.t 0)) none <| .nx [(.t 0)]) (.c (.bool false)) <| .sel 4 (.t 0) true (.op (.bin .eql (.t 2) (.c (.int .i64 0))) none <| .op (.beq false (.t 6) (.t 0)) none <| .nx [(.t 0)]) (.c (.bool false)) <| .sel 1 (.t 0) true (.op (.call false false 24 []) none <| .nx [(.t 0)]) (.c (.bool false)) <| .ret [(.t 0)]
def b7_3 : LC := .op (.cut 0 (.t 1) none (some (.t 0))) none <| .op (.bin .add (.t 2) (.t 0)) none <| .op (.build [.bool false, .str [], .str []] [(1, 1, (.t 0)), (2, 1, (.c (.str [120])))]) none <| .op (.call false false 13 [(.t 0)]) none <| .op (.bin .add (.c (.int .i64 63)) (.t 4)) none <| .op (.cut 0 (.t 6) none (some (.t 0))) none <| .op (.call false false 14 [(.t 0)]) none <| .op (.cut 0 (.t 8) none (some (.c (.int .i64 63)))) none <| .op (.bin .add (.t 0) (.c (.str [46]))) none <| .op (.cut 0 (.t 10) none (some (.c (.int .i64 63)))) none <| .op (.bin .add (.t 1) (.t 0)) none <| .op (.bin .add (.t 0) (.c (.str [46]))) none <| .op (.cut 0 (.t 13) none (some (.c (.int .i64 63)))) none <| .op (.bin .add (.t 1) (.t 0)) none <| .op (.bin .add (.t 0) (.c (.str [46]))) none <| .op (.cut 0 (.t 16) none (some (.c (.int .i64 63)))) none <| .op (.bin .add (.t 1) (.t 0)) none <| .op (.cut 0 (.t 0) none (some (.c (.int .i64 254)))) none <| .op (.bin .add (.c (.int .i64 1)) (.t 18)) none <| .op (.cut 0 (.t 20) none (some (.t 0))) none <| .op (.bin .add (.t 2) (.t 0)) none <| .op (.call false false 14 [(.t 0)]) none <| .op (.bin .eql (.t 22) (.c (.int .i64 1))) none <| .join [0, 6, 7, 9, 10] (.cond (.t 0) (.nx [(.t 23), (.t 19), (.t 16), (.t 1), (.c (.int .i64 5))]) (.nx [(.t 23), (.t 19), (.t 16), (.t 1), (.c (.int .i64 0))])) b7_2
def b7_4 : LC := .join [0, 5] (.block 0 (.loop [(.t 0), (.t 1), (.c (.str []))] b7_1)) b7_3
def b7 : LC := .op (.cvt .u64 (.t 0)) none <| .op (.bin .rem (.t 0) (.c (.int .u64 2))) none <| .op (.cvt .i64 (.t 0)) none <| .op (.bin .lss (.t 4) (.c (.int .u8 97))) none <| .sel 2 (.t 0) false (.op (.bin .gtr (.t 5) (.c (.int .u8 122))) none <| .nx [(.t 0)]) (.c (.bool true)) <| .join [0, 1] (.cond (.t 0) (.nx [(.t 2), (.c (.int .u8 97))]) (.nx [(.t 2), (.t 6)])) b7_4
def l7 : LF := ⟨83, 2, [], [.t 0], b7⟩
theorem t7 : treeOf Tryd.prog Tryd.f7 (fun _ => 0) (fun d => if d = 0 then [0, 1, 5] else []) [] 2 100000 b7 = some l7 := by kernel_rfl
/-! wherry/path.Parse -/
def b9 : LC := .op (.alloc [.bool false, .str [], .str []]) none <| .op (.bin .eql (.t 1) (.c (.str [60, 62]))) none <| .cond (.t 0) (.op (.build [.bool false, .str [], .str []] [(0, 1, (.c (.bool true)))]) none <| .op (.store 3 (.t 2) (.t 0)) none <| .ret [(.t 3), (.c (.int .i64 0))]) (.op (.call false false 26 [(.t 2), (.c (.str [60]))]) none <| .op (.ext (.t 0) 0) none <| .op (.ext (.t 1) 1) none <| .op (.call false false 27 [(.t 1), (.c (.str [62]))]) none <| .op (.ext (.t 0) 0) none <| .op (.ext (.t 1) 1) none <| .op (.call false false 28 [(.t 1), (.c (.str [64]))]) none <| .op (.ext (.t 0) 0) none <| .op (.ext (.t 1) 1) none <| .op (.ext (.t 2) 2) none <| .op (.build [.bool false, .str [], .str []] [(1, 1, (.t 2)), (2, 1, (.t 1))]) none <| .op (.alloc [.bool false, .str [], .str []]) none <| .op (.store 3 (.t 0) (.t 1)) none <| .op (.un .not (.t 10)) none <| .sel 2 (.t 0) false (.op (.un .not (.t 8)) none <| .nx [(.t 0)]) (.c (.bool true)) <| .sel 2 (.t 0) false (.op (.un .not (.t 5)) none <| .nx [(.t 0)]) (.c (.bool true)) <| .sel 3 (.t 0) false (.op (.load true 3 (.t 4)) none <| .op (.call false false 13 [(.t 0)]) none <| .op (.bin .neq (.t 0) (.c (.int .i64 0))) none <| .nx [(.t 0)]) (.c (.bool true)) <| .cond (.t 0) (.op (.build [.bool false, .str [], .str []] []) none <| .op (.store 3 (.t 19) (.t 0)) none <| .ret [(.t 20), (.c (.int .i64 5))]) (.op (.load true 3 (.t 5)) none <| .op (.store 3 (.t 19) (.t 0)) none <| .ret [(.t 20), (.c (.int .i64 0))]))
def l9 : LF := ⟨50, 1, [], [.cell 0 true 3, .t 1], b9⟩
theorem t9 : treeOf Tryd.prog Tryd.f9 (fun _ => 0) (fun _ => []) [] 1 100000 b9 = some l9 := by kernel_rfl
/-! wherry/path.Text -/
def b11_0 : LC := .op (.fad 1 (.t 0)) none <| .op (.load false 1 (.t 0)) none <| .op (.bin .add (.c (.str [60])) (.t 0)) none <| .op (.bin .add (.t 0) (.c (.str [64]))) none <| .op (.fad 2 (.t 4)) none <| .op (.load false 1 (.t 0)) none <| .op (.bin .add (.t 2) (.t 0)) none <| .op (.bin .add (.t 0) (.c (.str [62]))) none <| .ret [(.t 0), (.c (.int .i64 0))]
def b11 : LC := .op (.box (.t 0)) none <| .op (.load true 3 (.t 0)) none <| .op (.call false false 13 [(.t 0)]) none <| .join [1] (.block 0 (.op (.bin .neq (.t 0) (.c (.int .i64 0))) none <| .cond (.t 0) (.ret [(.c (.str [])), (.t 1)]) (.op (.fad 0 (.t 3)) none <| .op (.load false 1 (.t 0)) none <| .cond (.t 0) (.ret [(.c (.str [60, 62])), (.c (.int .i64 0))]) (.nx [(.t 5)])))) b11_0
def l11 : LF := ⟨22, 1, [], [.t 0, .t 1], b11⟩
theorem t11 : treeOf Tryd.prog Tryd.f11 (fun _ => 0) (fun _ => []) [] 1 100000 b11 = some l11 := by kernel_rfl
/-! wherry/path.Check -/
def b13 : LC := .op (.box (.t 0)) none <| .op (.fad 0 (.t 0)) none <| .op (.load false 1 (.t 0)) none <| .sel 6 (.t 0) true (.op (.fad 1 (.t 2)) none <| .op (.load false 1 (.t 0)) none <| .op (.fad 2 (.t 4)) none <| .op (.load false 1 (.t 0)) none <| .op (.bin .add (.t 2) (.t 0)) none <| .op (.bin .eql (.t 0) (.c (.str []))) none <| .nx [(.t 0)]) (.c (.bool false)) <| .sel 13 (.t 0) false (.op (.fad 0 (.t 3)) none <| .op (.load false 1 (.t 0)) none <| .op (.un .not (.t 0)) none <| .sel 3 (.t 0) true (.op (.fad 1 (.t 6)) none <| .op (.load false 1 (.t 0)) none <| .op (.call false false 31 [(.t 0), (.c (.int .i64 64)), (.c (.fn 32 []))]) none <| .nx [(.t 0)]) (.c (.bool false)) <| .sel 3 (.t 0) true (.op (.fad 2 (.t 7)) none <| .op (.load false 1 (.t 0)) none <| .op (.call false false 14 [(.t 0)]) none <| .nx [(.t 0)]) (.c (.bool false)) <| .nx [(.t 0)]) (.c (.bool true)) <| .cond (.t 0) (.ret [(.c (.int .i64 0))]) (.ret [(.c (.int .i64 5))])
def l13 : LF := ⟨28, 1, [], [.t 0], b13⟩
theorem t13 : treeOf Tryd.prog Tryd.f13 (fun _ => 0) (fun _ => []) [] 1 100000 b13 = some l13 := by kernel_rfl
/-! wherry/path.Domain -/
def b14 : LC := .op (.call false false 31 [(.t 0), (.c (.int .i64 255)), (.c (.fn 33 []))]) none <| .ret [(.t 0)]
def l14 : LF := ⟨5, 1, [], [.t 0], b14⟩
theorem t14 : treeOf Tryd.prog Tryd.f14 (fun _ => 0) (fun _ => []) [] 1 100000 b14 = some l14 := by kernel_rfl
/-! wherry/path.Same -/
def b18 : LC := .op (.box (.t 0)) none <| .op (.box (.t 2)) none <| .op (.load true 3 (.t 1)) none <| .op (.call false false 13 [(.t 0)]) none <| .op (.bin .eql (.t 0) (.c (.int .i64 0))) none <| .sel 3 (.t 0) true (.op (.load true 3 (.t 3)) none <| .op (.call false false 13 [(.t 0)]) none <| .op (.bin .eql (.t 0) (.c (.int .i64 0))) none <| .nx [(.t 0)]) (.c (.bool false)) <| .sel 5 (.t 0) true (.op (.fad 0 (.t 5)) none <| .op (.load false 1 (.t 0)) none <| .op (.fad 0 (.t 6)) none <| .op (.load false 1 (.t 0)) none <| .op (.beq false (.t 2) (.t 0)) none <| .nx [(.t 0)]) (.c (.bool false)) <| .sel 5 (.t 0) true (.op (.fad 1 (.t 6)) none <| .op (.load false 1 (.t 0)) none <| .op (.fad 1 (.t 7)) none <| .op (.load false 1 (.t 0)) none <| .op (.bin .eql (.t 2) (.t 0)) none <| .nx [(.t 0)]) (.c (.bool false)) <| .sel 7 (.t 0) true (.op (.fad 2 (.t 7)) none <| .op (.load false 1 (.t 0)) none <| .op (.call false false 22 [(.t 0)]) none <| .op (.fad 2 (.t 9)) none <| .op (.load false 1 (.t 0)) none <| .op (.call false false 22 [(.t 0)]) none <| .op (.bin .eql (.t 3) (.t 0)) none <| .nx [(.t 0)]) (.c (.bool false)) <| .ret [(.t 0)]
def l18 : LF := ⟨36, 2, [], [.t 0], b18⟩
theorem t18 : treeOf Tryd.prog Tryd.f18 (fun _ => 0) (fun _ => []) [] 2 100000 b18 = some l18 := by kernel_rfl
/-! wherry/path.At -/
def b20 : LC := .op (.box (.t 0)) none <| .op (.load true 3 (.t 0)) none <| .op (.call false false 13 [(.t 0)]) none <| .op (.bin .eql (.t 0) (.c (.int .i64 0))) none <| .sel 3 (.t 0) true (.op (.fad 0 (.t 3)) none <| .op (.load false 1 (.t 0)) none <| .op (.un .not (.t 0)) none <| .nx [(.t 0)]) (.c (.bool false)) <| .sel 6 (.t 0) true (.op (.fad 2 (.t 4)) none <| .op (.load false 1 (.t 0)) none <| .op (.call false false 22 [(.t 0)]) none <| .op (.call false false 22 [(.t 9)]) none <| .op (.bin .eql (.t 1) (.t 0)) none <| .nx [(.t 0)]) (.c (.bool false)) <| .ret [(.t 0)]
def l20 : LF := ⟨21, 2, [], [.t 0], b20⟩
theorem t20 : treeOf Tryd.prog Tryd.f20 (fun _ => 0) (fun _ => []) [] 2 100000 b20 = some l20 := by kernel_rfl
/-! wherry/path.Fold -/
def b22_0 : LC := .op (.bin .add (.t 3) (.c (.int .i64 1))) none <| .nx [(.t 1), (.t 2), (.t 3), (.t 0)]
def b22_1 : LC := .op (.bin .lss (.t 3) (.t 2)) none <| .cond (.t 0) (.join [3, 8, 9, 10] (.block 1 (.op (.iad 1 (.t 2) (.t 4)) none <| .op (.load false 1 (.t 0)) none <| .op (.bin .geq (.t 0) (.c (.int .u8 65))) none <| .sel 2 (.t 0) true (.op (.bin .leq (.t 1) (.c (.int .u8 90))) none <| .nx [(.t 0)]) (.c (.bool false)) <| .cond (.t 0) (.op (.bin .add (.t 2) (.c (.int .u8 97))) none <| .op (.bin .sub (.t 0) (.c (.int .u8 65))) none <| .op (.iad 1 (.t 7) (.t 10)) none <| .op (.store 1 (.t 0) (.t 1)) none <| .nx [(.t 9), (.t 10), (.t 11), (.t 12)]) (.nx [(.t 5), (.t 6), (.t 7), (.t 8)]))) b22_0) (.exit 0 [(.t 1)])
def b22_2 : LC := .op (.b2s (.t 0)) none <| .ret [(.t 0)]
def b22 : LC := .op (.s2b true (.t 0)) none <| .op (.len false (.t 0)) none <| .join [3] (.block 0 (.loop [(.t 1), (.t 1), (.t 0), (.c (.int .i64 0))] b22_1)) b22_2
def l22 : LF := ⟨30, 1, [], [.t 0], b22⟩
theorem t22 : treeOf Tryd.prog Tryd.f22 (fun d => if d = 7 then 1 else 0) (fun d => if d = 0 then [3, 8, 9, 10] else []) [] 1 100000 b22 = some l22 := by kernel_rfl
/-! wherry/wherrylaw11.wakes -/
def b24 : LC := .op (.call false false 9 [(.c (.str [60, 97, 46, 98, 64, 99, 45, 100, 46, 101, 120, 97, 109, 112, 108, 101, 62]))]) none <| .op (.ext (.t 0) 0) none <| .op (.ext (.t 1) 1) none <| .op (.alloc [.bool false, .str [], .str []]) none <| .op (.store 3 (.t 0) (.t 2)) none <| .op (.load true 3 (.t 1)) none <| .op (.call false false 11 [(.t 0)]) none <| .op (.ext (.t 0) 0) none <| .op (.ext (.t 1) 1) none <| .op (.call false false 9 [(.c (.str [60, 62]))]) none <| .op (.ext (.t 0) 0) none <| .op (.ext (.t 1) 1) none <| .op (.alloc [.bool false, .str [], .str []]) none <| .op (.store 3 (.t 0) (.t 2)) none <| .op (.call false false 9 [(.c (.str [60, 97, 46, 46, 98, 64, 99, 62]))]) none <| .op (.ext (.t 0) 0) none <| .op (.ext (.t 1) 1) none <| .op (.alloc [.bool false, .str [], .str []]) none <| .op (.store 3 (.t 0) (.t 2)) none <| .op (.bin .eql (.t 16) (.c (.int .i64 0))) none <| .sel 2 (.t 0) true (.op (.bin .eql (.t 11) (.c (.int .i64 0))) none <| .nx [(.t 0)]) (.c (.bool false)) <| .sel 2 (.t 0) true (.op (.bin .eql (.t 9) (.c (.int .i64 0))) none <| .nx [(.t 0)]) (.c (.bool false)) <| .sel 2 (.t 0) true (.op (.bin .eql (.t 5) (.c (.int .i64 5))) none <| .nx [(.t 0)]) (.c (.bool false)) <| .sel 3 (.t 0) true (.op (.fad 1 (.t 19)) none <| .op (.load false 1 (.t 0)) none <| .op (.bin .eql (.t 0) (.c (.str [97, 46, 98]))) none <| .nx [(.t 0)]) (.c (.bool false)) <| .sel 3 (.t 0) true (.op (.fad 2 (.t 20)) none <| .op (.load false 1 (.t 0)) none <| .op (.bin .eql (.t 0) (.c (.str [99, 45, 100, 46, 101, 120, 97, 109, 112, 108, 101]))) none <| .nx [(.t 0)]) (.c (.bool false)) <| .sel 2 (.t 0) true (.op (.bin .eql (.t 17) (.c (.str [60, 97, 46, 98, 64, 99, 45, 100, 46, 101, 120, 97, 109, 112, 108, 101, 62]))) none <| .nx [(.t 0)]) (.c (.bool false)) <| .sel 2 (.t 0) true (.op (.fad 0 (.t 13)) none <| .op (.load false 1 (.t 0)) none <| .nx [(.t 0)]) (.c (.bool false)) <| .sel 1 (.t 0) true (.op (.call false false 14 [(.c (.str [120]))]) none <| .nx [(.t 0)]) (.c (.bool false)) <| .sel 2 (.t 0) true (.op (.call false false 22 [(.c (.str [97, 90]))]) none <| .op (.bin .eql (.t 0) (.c (.str [97, 122]))) none <| .nx [(.t 0)]) (.c (.bool false)) <| .sel 2 (.t 0) true (.op (.load true 3 (.t 25)) none <| .op (.call false false 20 [(.t 0), (.c (.str [67, 45, 68, 46, 69, 88, 65, 77, 80, 76, 69]))]) none <| .nx [(.t 0)]) (.c (.bool false)) <| .sel 3 (.t 0) true (.op (.load true 3 (.t 26)) none <| .op (.load true 3 (.t 27)) none <| .op (.call false false 18 [(.t 1), (.t 0)]) none <| .nx [(.t 0)]) (.c (.bool false)) <| .ret [(.t 0)]
def l24 : LF := ⟨74, 0, [], [.t 0], b24⟩
theorem t24 : treeOf Tryd.prog Tryd.f24 (fun _ => 0) (fun _ => []) [] 0 100000 b24 = some l24 := by kernel_rfl
/-! strings.CutPrefix -/
def b26 : LC := .op (.call false false 37 [(.t 0), (.t 1)]) none <| .op (.ext (.t 0) 0) none <| .op (.ext (.t 1) 1) none <| .ret [(.t 1), (.t 0)]
def l26 : LF := ⟨11, 2, [], [.t 0, .t 1], b26⟩
theorem t26 : treeOf Tryd.prog Tryd.f26 (fun _ => 0) (fun _ => []) [] 2 100000 b26 = some l26 := by kernel_rfl
/-! strings.CutSuffix -/
def b27 : LC := .op (.call false false 38 [(.t 0), (.t 1)]) none <| .op (.ext (.t 0) 0) none <| .op (.ext (.t 1) 1) none <| .ret [(.t 1), (.t 0)]
def l27 : LF := ⟨11, 2, [], [.t 0, .t 1], b27⟩
theorem t27 : treeOf Tryd.prog Tryd.f27 (fun _ => 0) (fun _ => []) [] 2 100000 b27 = some l27 := by kernel_rfl
/-! strings.Cut -/
def b28 : LC := .op (.call false false 39 [(.t 0), (.t 1)]) none <| .op (.ext (.t 0) 0) none <| .op (.ext (.t 1) 1) none <| .op (.ext (.t 2) 2) none <| .ret [(.t 2), (.t 1), (.t 0)]
def l28 : LF := ⟨13, 2, [], [.t 0, .t 1, .t 2], b28⟩
theorem t28 : treeOf Tryd.prog Tryd.f28 (fun _ => 0) (fun _ => []) [] 2 100000 b28 = some l28 := by kernel_rfl
/-! wherry/path.parts -/
def b31 : LC := .op (.box (.t 2)) none <| .op (.len true (.t 1)) none <| .op (.bin .leq (.t 0) (.t 3)) none <| .sel 5 (.t 0) true (.op (.call false false 42 [(.t 3), (.c (.str [46]))]) none <| .op (.clo 43 [(.t 3)]) none <| .op (.call true false 41 [(.t 1), (.t 0)]) none <| .op (.un .not (.t 0)) none <| .nx [(.t 0)]) (.c (.bool false)) <| .ret [(.t 0)]
def l31 : LF := ⟨18, 3, [], [.t 0], b31⟩
theorem t31 : treeOf Tryd.prog Tryd.f31 (fun d => if d = 15 then 3 else 0) (fun _ => []) [] 3 100000 b31 = some l31 := by kernel_rfl
/-! wherry/path.atom -/
def b32_0 : LC := .op (.bin .add (.t 2) (.c (.int .i64 1))) none <| .nx [(.t 1), (.t 2), (.t 0)]
def b32_1 : LC := .op (.bin .lss (.t 2) (.t 1)) none <| .cond (.t 0) (.join [0, 5, 6] (.block 1 (.op (.idx (.t 1) (.t 3)) none <| .op (.call false false 44 [(.t 0)]) none <| .op (.un .not (.t 0)) none <| .sel 5 (.t 0) true (.op (.idx (.t 4) (.t 6)) none <| .op (.call false false 45 [(.c (.str [33, 35, 36, 37, 38, 39, 42, 43, 45, 47, 61, 63, 94, 95, 96, 123, 124, 125, 126])), (.t 0)]) none <| .op (.bin .lss (.t 0) (.c (.int .i64 0))) none <| .nx [(.t 0)]) (.c (.bool false)) <| .cond (.t 0) (.ret [(.c (.bool false))]) (.nx [(.t 5), (.t 6), (.t 7)]))) b32_0) (.exit 0 [(.t 1)])
def b32_2 : LC := .op (.bin .neq (.t 0) (.c (.str []))) none <| .ret [(.t 0)]
def b32 : LC := .op (.len true (.t 0)) none <| .join [0] (.block 0 (.loop [(.t 1), (.t 0), (.c (.int .i64 0))] b32_1)) b32_2
def l32 : LF := ⟨24, 1, [], [.t 0], b32⟩
theorem t32 : treeOf Tryd.prog Tryd.f32 (fun _ => 0) (fun d => if d = 0 then [0, 5, 6] else []) [] 1 100000 b32 = some l32 := by kernel_rfl
/-! wherry/path.label -/
def b33_0 : LC := .op (.bin .add (.t 2) (.c (.int .i64 1))) none <| .nx [(.t 1), (.t 2), (.t 0)]
def b33_1 : LC := .op (.bin .lss (.t 2) (.t 1)) none <| .cond (.t 0) (.join [0, 5, 6] (.block 1 (.op (.idx (.t 1) (.t 3)) none <| .op (.call false false 44 [(.t 0)]) none <| .op (.un .not (.t 0)) none <| .sel 4 (.t 0) true (.op (.idx (.t 4) (.t 6)) none <| .op (.bin .neq (.t 0) (.c (.int .u8 45))) none <| .nx [(.t 0)]) (.c (.bool false)) <| .cond (.t 0) (.ret [(.c (.bool false))]) (.nx [(.t 5), (.t 6), (.t 7)]))) b33_0) (.exit 0 [(.t 1)])
def b33_2 : LC := .op (.bin .neq (.t 0) (.c (.str []))) none <| .sel 3 (.t 0) true (.op (.len true (.t 1)) none <| .op (.bin .leq (.t 0) (.c (.int .i64 63))) none <| .nx [(.t 0)]) (.c (.bool false)) <| .sel 3 (.t 0) true (.op (.idx (.t 2) (.c (.int .i64 0))) none <| .op (.bin .neq (.t 0) (.c (.int .u8 45))) none <| .nx [(.t 0)]) (.c (.bool false)) <| .sel 6 (.t 0) true (.op (.len true (.t 3)) none <| .op (.bin .sub (.t 0) (.c (.int .i64 1))) none <| .op (.idx (.t 5) (.t 0)) none <| .op (.bin .neq (.t 0) (.c (.int .u8 45))) none <| .nx [(.t 0)]) (.c (.bool false)) <| .ret [(.t 0)]
def b33 : LC := .op (.len true (.t 0)) none <| .join [0] (.block 0 (.loop [(.t 1), (.t 0), (.c (.int .i64 0))] b33_1)) b33_2
def l33 : LF := ⟨41, 1, [], [.t 0], b33⟩
theorem t33 : treeOf Tryd.prog Tryd.f33 (fun _ => 0) (fun d => if d = 0 then [0, 5, 6] else []) [] 1 100000 b33 = some l33 := by kernel_rfl
/-! internal/stringslite.CutPrefix -/
def b37 : LC := .op (.call false false 46 [(.t 0), (.t 1)]) none <| .op (.un .not (.t 0)) none <| .cond (.t 0) (.ret [(.t 2), (.c (.bool false))]) (.op (.len true (.t 3)) none <| .op (.cut 0 (.t 3) (some (.t 0)) none) none <| .ret [(.t 0), (.c (.bool true))])
def l37 : LF := ⟨15, 2, [], [.t 0, .t 1], b37⟩
theorem t37 : treeOf Tryd.prog Tryd.f37 (fun _ => 0) (fun _ => []) [] 2 100000 b37 = some l37 := by kernel_rfl
/-! internal/stringslite.CutSuffix -/
def b38 : LC := .op (.call false false 47 [(.t 0), (.t 1)]) none <| .op (.un .not (.t 0)) none <| .cond (.t 0) (.ret [(.t 2), (.c (.bool false))]) (.op (.len true (.t 2)) none <| .op (.len true (.t 4)) none <| .op (.bin .sub (.t 1) (.t 0)) none <| .op (.cut 0 (.t 5) none (some (.t 0))) none <| .ret [(.t 0), (.c (.bool true))])
def l38 : LF := ⟨18, 2, [], [.t 0, .t 1], b38⟩
theorem t38 : treeOf Tryd.prog Tryd.f38 (fun _ => 0) (fun _ => []) [] 2 100000 b38 = some l38 := by kernel_rfl
/-! internal/stringslite.Cut -/
def b39 : LC := .op (.call false false 48 [(.t 0), (.t 1)]) none <| .op (.bin .geq (.t 0) (.c (.int .i64 0))) none <| .cond (.t 0) (.op (.cut 0 (.t 2) none (some (.t 1))) none <| .op (.len true (.t 4)) none <| .op (.bin .add (.t 3) (.t 0)) none <| .op (.cut 0 (.t 5) (some (.t 0)) none) none <| .ret [(.t 3), (.t 0), (.c (.bool true))]) (.ret [(.t 2), (.c (.str [])), (.c (.bool false))])
def l39 : LF := ⟨23, 2, [], [.t 0, .t 1, .t 2], b39⟩
theorem t39 : treeOf Tryd.prog Tryd.f39 (fun _ => 0) (fun _ => []) [] 2 100000 b39 = some l39 := by kernel_rfl
/-! slices.ContainsFunc[[]string,string] -/
def b41 : LC := .op (.call true false 49 [(.t 0), (.t 1)]) none <| .op (.bin .geq (.t 0) (.c (.int .i64 0))) none <| .ret [(.t 0)]
def l41 : LF := ⟨9, 2, [], [.t 0], b41⟩
theorem t41 : treeOf Tryd.prog Tryd.f41 (fun d => if d = 7 then 3 else 0) (fun _ => []) [] 2 100000 b41 = some l41 := by kernel_rfl
-- 42 strings.Split: told otherwise
/-! wherry/path.parts$1 -/
def b43 : LC := .op (.load false 1 (.t 1)) none <| .op (.callv (.t 0) [(.t 1)]) none <| .op (.un .not (.t 0)) none <| .ret [(.t 0)]
def l43 : LF := ⟨8, 2, [], [.t 0], b43⟩
theorem t43 : treeOf Tryd.prog Tryd.f43 (fun _ => 0) (fun _ => []) [] 2 100000 b43 = some l43 := by kernel_rfl
/-! wherry/path.plain -/
def b44 : LC := .op (.bin .geq (.t 0) (.c (.int .u8 97))) none <| .sel 2 (.t 0) true (.op (.bin .leq (.t 1) (.c (.int .u8 122))) none <| .nx [(.t 0)]) (.c (.bool false)) <| .sel 6 (.t 0) false (.op (.bin .geq (.t 2) (.c (.int .u8 65))) none <| .sel 2 (.t 0) true (.op (.bin .leq (.t 3) (.c (.int .u8 90))) none <| .nx [(.t 0)]) (.c (.bool false)) <| .nx [(.t 0)]) (.c (.bool true)) <| .sel 6 (.t 0) false (.op (.bin .geq (.t 3) (.c (.int .u8 48))) none <| .sel 2 (.t 0) true (.op (.bin .leq (.t 4) (.c (.int .u8 57))) none <| .nx [(.t 0)]) (.c (.bool false)) <| .nx [(.t 0)]) (.c (.bool true)) <| .ret [(.t 0)]
def l44 : LF := ⟨25, 1, [], [.t 0], b44⟩
theorem t44 : treeOf Tryd.prog Tryd.f44 (fun _ => 0) (fun _ => []) [] 1 100000 b44 = some l44 := by kernel_rfl
-- 45 strings.IndexByte: told otherwise
/-! internal/stringslite.HasPrefix -/
def b46 : LC := .op (.len true (.t 0)) none <| .op (.len true (.t 2)) none <| .op (.bin .geq (.t 1) (.t 0)) none <| .sel 6 (.t 0) true (.op (.len true (.t 4)) none <| .op (.cut 0 (.t 4) none (some (.t 0))) none <| .op (.bin .eql (.t 0) (.t 6)) none <| .nx [(.t 0)]) (.c (.bool false)) <| .ret [(.t 0)]
def l46 : LF := ⟨18, 2, [], [.t 0], b46⟩
theorem t46 : treeOf Tryd.prog Tryd.f46 (fun _ => 0) (fun _ => []) [] 2 100000 b46 = some l46 := by kernel_rfl
/-! internal/stringslite.HasSuffix -/
def b47 : LC := .op (.len true (.t 0)) none <| .op (.len true (.t 2)) none <| .op (.bin .geq (.t 1) (.t 0)) none <| .sel 9 (.t 0) true (.op (.len true (.t 3)) none <| .op (.len true (.t 5)) none <| .op (.bin .sub (.t 1) (.t 0)) none <| .op (.cut 0 (.t 6) (some (.t 0)) none) none <| .op (.bin .eql (.t 0) (.t 8)) none <| .nx [(.t 0)]) (.c (.bool false)) <| .ret [(.t 0)]
def l47 : LF := ⟨21, 2, [], [.t 0], b47⟩
theorem t47 : treeOf Tryd.prog Tryd.f47 (fun _ => 0) (fun _ => []) [] 2 100000 b47 = some l47 := by kernel_rfl
-- 48 internal/stringslite.Index: told otherwise
/-! slices.IndexFunc[[]string,string] -/
def b49_0 : LC := .op (.bin .add (.t 3) (.c (.int .i64 1))) none <| .nx [(.t 1), (.t 2), (.t 3), (.t 0)]
def b49_1 : LC := .op (.bin .lss (.t 3) (.t 2)) none <| .cond (.t 0) (.join [0, 1, 7, 8] (.block 1 (.op (.iad 1 (.t 1) (.t 4)) none <| .op (.load false 1 (.t 0)) none <| .op (.callv (.t 4) [(.t 0)]) none <| .cond (.t 0) (.ret [(.t 7)]) (.nx [(.t 4), (.t 5), (.t 6), (.t 7)]))) b49_0) (.exit 0 [])
def b49_2 : LC := .ret [(.c (.int .i64 (-1)))]
def b49 : LC := .op (.len false (.t 0)) none <| .join [] (.block 0 (.loop [(.t 1), (.t 2), (.t 0), (.c (.int .i64 0))] b49_1)) b49_2
def l49 : LF := ⟨19, 2, [], [.t 0], b49⟩
theorem t49 : treeOf Tryd.prog Tryd.f49 (fun _ => 0) (fun d => if d = 0 then [0, 1, 7, 8] else []) [] 2 100000 b49 = some l49 := by kernel_rfl
def lt : Nat → Option LF
  | 7 => some l7
  | 9 => some l9
  | 11 => some l11
  | 13 => some l13
  | 14 => some l14
  | 18 => some l18
  | 20 => some l20
  | 22 => some l22
  | 24 => some l24
  | 26 => some l26
  | 27 => some l27
  | 28 => some l28
  | 31 => some l31
  | 32 => some l32
  | 33 => some l33
  | 37 => some l37
  | 38 => some l38
  | 39 => some l39
  | 41 => some l41
  | 43 => some l43
  | 44 => some l44
  | 46 => some l46
  | 47 => some l47
  | 49 => some l49
  | _ => none
theorem lt_ok : TreeOk Tryd.prog lt := by
  intro f F h
  unfold lt at h
  split at h
  · cases h; exact told_of t7 Tryd.func7 (by kernel_rfl)
  · cases h; exact told_of t9 Tryd.func9 (by kernel_rfl)
  · cases h; exact told_of t11 Tryd.func11 (by kernel_rfl)
  · cases h; exact told_of t13 Tryd.func13 (by kernel_rfl)
  · cases h; exact told_of t14 Tryd.func14 (by kernel_rfl)
  · cases h; exact told_of t18 Tryd.func18 (by kernel_rfl)
  · cases h; exact told_of t20 Tryd.func20 (by kernel_rfl)
  · cases h; exact told_of t22 Tryd.func22 (by kernel_rfl)
  · cases h; exact told_of t24 Tryd.func24 (by kernel_rfl)
  · cases h; exact told_of t26 Tryd.func26 (by kernel_rfl)
  · cases h; exact told_of t27 Tryd.func27 (by kernel_rfl)
  · cases h; exact told_of t28 Tryd.func28 (by kernel_rfl)
  · cases h; exact told_of t31 Tryd.func31 (by kernel_rfl)
  · cases h; exact told_of t32 Tryd.func32 (by kernel_rfl)
  · cases h; exact told_of t33 Tryd.func33 (by kernel_rfl)
  · cases h; exact told_of t37 Tryd.func37 (by kernel_rfl)
  · cases h; exact told_of t38 Tryd.func38 (by kernel_rfl)
  · cases h; exact told_of t39 Tryd.func39 (by kernel_rfl)
  · cases h; exact told_of t41 Tryd.func41 (by kernel_rfl)
  · cases h; exact told_of t43 Tryd.func43 (by kernel_rfl)
  · cases h; exact told_of t44 Tryd.func44 (by kernel_rfl)
  · cases h; exact told_of t46 Tryd.func46 (by kernel_rfl)
  · cases h; exact told_of t47 Tryd.func47 (by kernel_rfl)
  · cases h; exact told_of t49 Tryd.func49 (by kernel_rfl)
  · cases h
end Go.Proofs.YtgilfigaimndkaaDoor.Tab
