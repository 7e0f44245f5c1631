/- The functions that these laws reach, as trees: printed by this session's own program. -/
import Derived.Test.YtghnffhgmhfofaaDoorEv26
import Derived.Test.YtghnffhgmhfofaaDoorProg
import Derived.KernelRfl
namespace Go.Proofs.YtghnffhgmhfofaaDoor.Tab
set_option linter.all false
open Go Go.Proofs.YtghnffhgmhfofaaDoor.Ev
-- LAW wherry/wherrylaw16.ReportExact 3 [9, 23, 23, 24] [4]
-- LAW wherry/wherrylaw16.ReportWrong 4 [23, 23, 3, 5] [4]
-- LAW wherry/wherrylaw16.ReportBack 5 [9, 23, 23, 5] [4]
/-! wherry/wherrylaw16.ReportExact -/
def q3 : LC := .op (.boxc (.t 1)) none <| .op (.boxc (.t 3)) none <| .op (.len true (.t 2)) none <| .op (.fad 1 (.t 2)) none <| .op (.load false 1 (.t 0)) none <| .op (.len true (.t 0)) none <| .op (.bin .add (.t 3) (.t 0)) none <| .op (.fad 2 (.t 6)) none <| .op (.load false 1 (.t 0)) none <| .op (.len true (.t 0)) none <| .op (.bin .add (.t 3) (.t 0)) none <| .op (.fad 1 (.t 9)) none <| .op (.load false 1 (.t 0)) none <| .op (.len true (.t 0)) none <| .op (.bin .add (.t 3) (.t 0)) none <| .op (.fad 2 (.t 13)) none <| .op (.load false 1 (.t 0)) none <| .op (.len true (.t 0)) none <| .op (.bin .add (.t 3) (.t 0)) none <| .op (.bin .gtr (.t 0) (.c (.int .i64 2000))) none <| .sel 3 (.t 0) false (.op (.len false (.t 23)) none <| .op (.bin .gtr (.t 0) (.c (.int .i64 3000))) none <| .nx [(.t 0)]) (.c (.bool true)) <| .cond (.t 0) (.ret [(.c (.bool true))]) (.op (.call false false 6 [(.t 24)]) none <| .op (.load true 3 (.t 21)) none <| .op (.load true 3 (.t 21)) none <| .op (.call false false 7 [(.t 24), (.t 1), (.t 0)]) none <| .op (.ext (.t 0) 0) none <| .op (.ext (.t 1) 1) none <| .op (.call false false 8 [(.t 5)]) none <| .op (.ext (.t 0) 0) none <| .op (.ext (.t 1) 1) none <| .op (.ext (.t 2) 2) none <| .op (.ext (.t 3) 3) none <| .op (.alloc [.bool false, .str [], .str []]) none <| .op (.alloc [.bool false, .str [], .str []]) none <| .op (.store 3 (.t 1) (.t 4)) none <| .op (.store 3 (.t 1) (.t 4)) none <| .op (.call false false 9 [(.t 39)]) none <| .op (.ext (.t 0) 0) none <| .op (.ext (.t 1) 1) none <| .op (.ext (.t 2) 2) none <| .op (.ext (.t 3) 3) none <| .op (.alloc [.bool false, .str [], .str []]) none <| .op (.alloc [.bool false, .str [], .str []]) none <| .op (.store 3 (.t 1) (.t 4)) none <| .op (.store 3 (.t 1) (.t 4)) none <| .op (.load true 3 (.t 44)) none <| .op (.load true 3 (.t 44)) none <| .op (.call false false 10 [(.t 47), (.t 1), (.t 0)]) none <| .sel 11 (.t 0) true (.op (.bin .neq (.t 21) (.c (.int .i64 0))) none <| .sel 7 (.t 0) false (.op (.load true 3 (.t 48)) none <| .op (.load true 3 (.t 48)) none <| .op (.call false false 12 [(.t 51), (.t 1), (.t 0)]) none <| .op (.call false false 11 [(.t 26), (.t 0)]) none <| .op (.un .not (.t 0)) none <| .nx [(.t 0)]) (.c (.bool true)) <| .nx [(.t 0)]) (.c (.bool false)) <| .sel 11 (.t 0) false (.op (.un .not (.t 1)) none <| .sel 7 (.t 0) true (.op (.bin .neq (.t 23) (.c (.int .i64 5))) none <| .sel 3 (.t 0) false (.op (.len false (.t 25)) none <| .op (.bin .gtr (.t 0) (.c (.int .i64 0))) none <| .nx [(.t 0)]) (.c (.bool true)) <| .nx [(.t 0)]) (.c (.bool false)) <| .nx [(.t 0)]) (.c (.bool true)) <| .cond (.t 0) (.ret [(.c (.bool false))]) (.op (.bin .eql (.t 18) (.c (.int .i64 0))) none <| .op (.beq false (.t 0) (.t 10)) none <| .sel 5 (.t 0) true (.sel 2 (.t 11) false (.op (.bin .eql (.t 20) (.c (.int .i64 5))) none <| .nx [(.t 0)]) (.c (.bool true)) <| .nx [(.t 0)]) (.c (.bool false)) <| .sel 3 (.t 0) true (.op (.bin .eql (.t 24) (.t 15)) none <| .nx [(.t 0)]) (.c (.bool false)) <| .sel 3 (.t 0) true (.op (.load true 3 (.t 21)) none <| .op (.load true 3 (.t 13)) none <| .op (.call false false 13 [(.t 1), (.t 0)]) none <| .nx [(.t 0)]) (.c (.bool false)) <| .sel 3 (.t 0) true (.op (.load true 3 (.t 21)) none <| .op (.load true 3 (.t 13)) none <| .op (.call false false 13 [(.t 1), (.t 0)]) none <| .nx [(.t 0)]) (.c (.bool false)) <| .sel 3 (.t 0) true (.op (.call false false 11 [(.t 34), (.t 59)]) none <| .nx [(.t 0)]) (.c (.bool false)) <| .sel 1 (.t 0) true (.op (.call false false 14 []) none <| .nx [(.t 0)]) (.c (.bool false)) <| .ret [(.t 0)]))
def l3 : LF := ⟨133, 4, [], [.t 0], q3, false⟩
theorem t3 : treeOf Tryd.prog Tryd.f3 (fun d => if d = 5 then 4 else if d = 6 then 4 else 0) (fun _ => []) false [] 4 100000 q3 = some l3 := by kernel_rfl
/-! wherry/wherrylaw16.ReportWrong -/
def q4_0 : LC := .op (.lit false 1 2 [.int .u8 0, .int .u8 0] [(0, 1, (.c (.int .u8 13))), (1, 1, (.c (.int .u8 10)))]) none <| .op (.app 1 1 (.t 4) (.t 0)) none <| .nx [(.t 2), (.t 3), (.t 4), (.t 0), (.t 6), (.t 7)]
def q4_1 : LC := .op (.bin .add (.t 5) (.c (.int .i64 1))) none <| .nx [(.t 1), (.t 2), (.t 3), (.t 4), (.t 5), (.t 0)]
def q4_2 : LC := .op (.len false (.t 2)) none <| .op (.bin .lss (.t 6) (.t 0)) none <| .cond (.t 0) (.join [2, 3, 16, 17, 18, 19] (.block 1 (.op (.iad 1 (.t 4) (.t 7)) none <| .op (.load false 1 (.t 0)) none <| .op (.app 1 1 (.t 7) (.t 0)) none <| .op (.iad 1 (.t 7) (.t 10)) none <| .op (.load false 1 (.t 0)) none <| .op (.app 1 1 (.t 11) (.t 0)) none <| .op (.lit false 1 2 [.int .u8 0, .int .u8 0] [(0, 1, (.c (.int .u8 13))), (1, 1, (.c (.int .u8 10)))]) none <| .op (.app 1 1 (.t 1) (.t 0)) none <| .op (.bin .eql (.t 15) (.t 10)) none <| .join [2, 3, 16, 17, 18, 19] (.cond (.t 0) (.op (.lit false 1 1 [.int .u8 0] [(0, 1, (.t 12))]) none <| .op (.app 1 1 (.t 7) (.t 0)) none <| .op (.lit false 1 2 [.int .u8 0, .int .u8 0] [(0, 1, (.c (.int .u8 13))), (1, 1, (.c (.int .u8 10)))]) none <| .op (.app 1 1 (.t 4) (.t 0)) none <| .nx [(.t 15), (.t 16), (.t 17), (.t 2), (.t 0), (.t 20)]) (.nx [(.t 11), (.t 12), (.t 13), (.t 6), (.t 1), (.t 16)])) q4_0)) q4_1) (.exit 0 [(.t 5), (.t 6)])
def q4_3 : LC := .op (.call false false 8 [(.t 0)]) none <| .op (.ext (.t 0) 0) none <| .op (.ext (.t 1) 1) none <| .op (.ext (.t 2) 2) none <| .op (.ext (.t 3) 3) none <| .op (.alloc [.bool false, .str [], .str []]) none <| .op (.alloc [.bool false, .str [], .str []]) none <| .op (.store 3 (.t 1) (.t 4)) none <| .op (.store 3 (.t 1) (.t 4)) none <| .op (.call false false 8 [(.t 10)]) none <| .op (.ext (.t 0) 0) none <| .op (.ext (.t 1) 1) none <| .op (.ext (.t 2) 2) none <| .op (.ext (.t 3) 3) none <| .op (.alloc [.bool false, .str [], .str []]) none <| .op (.alloc [.bool false, .str [], .str []]) none <| .op (.store 3 (.t 1) (.t 4)) none <| .op (.store 3 (.t 1) (.t 4)) none <| .op (.bin .eql (.t 13) (.c (.int .i64 5))) none <| .sel 2 (.t 0) true (.op (.bin .eql (.t 5) (.c (.int .i64 5))) none <| .nx [(.t 0)]) (.c (.bool false)) <| .sel 2 (.t 0) true (.op (.bin .eql (.t 18) (.c (.str []))) none <| .nx [(.t 0)]) (.c (.bool false)) <| .sel 3 (.t 0) true (.op (.load true 3 (.t 15)) none <| .op (.build [.bool false, .str [], .str []] []) none <| .op (.call false false 13 [(.t 1), (.t 0)]) none <| .nx [(.t 0)]) (.c (.bool false)) <| .sel 3 (.t 0) true (.op (.load true 3 (.t 15)) none <| .op (.build [.bool false, .str [], .str []] []) none <| .op (.call false false 13 [(.t 1), (.t 0)]) none <| .nx [(.t 0)]) (.c (.bool false)) <| .sel 1 (.t 0) true (.op (.call false false 14 []) none <| .nx [(.t 0)]) (.c (.bool false)) <| .ret [(.t 0)]
def q4 : LC := .op (.boxc (.t 0)) none <| .op (.boxc (.t 2)) none <| .op (.fad 1 (.t 1)) none <| .op (.load false 1 (.t 0)) none <| .op (.len true (.t 0)) none <| .op (.fad 2 (.t 4)) none <| .op (.load false 1 (.t 0)) none <| .op (.len true (.t 0)) none <| .op (.bin .add (.t 3) (.t 0)) none <| .op (.fad 1 (.t 7)) none <| .op (.load false 1 (.t 0)) none <| .op (.len true (.t 0)) none <| .op (.bin .add (.t 3) (.t 0)) none <| .op (.fad 2 (.t 11)) none <| .op (.load false 1 (.t 0)) none <| .op (.len true (.t 0)) none <| .op (.bin .add (.t 3) (.t 0)) none <| .op (.bin .gtr (.t 0) (.c (.int .i64 1000))) none <| .sel 4 (.t 0) false (.op (.load true 3 (.t 17)) none <| .op (.load true 3 (.t 17)) none <| .op (.call false false 10 [(.c (.str [115, 46, 120])), (.t 1), (.t 0)]) none <| .op (.un .not (.t 0)) none <| .nx [(.t 0)]) (.c (.bool true)) <| .cond (.t 0) (.ret [(.c (.bool true))]) (.op (.build [.bool false, .str [], .str []] [(0, 1, (.c (.bool true)))]) none <| .op (.alloc [.bool false, .str [], .str []]) none <| .op (.store 3 (.t 0) (.t 1)) none <| .op (.load true 3 (.t 1)) none <| .op (.load true 3 (.t 21)) none <| .op (.call false false 7 [(.c (.str [115, 46, 120])), (.t 1), (.t 0)]) none <| .op (.ext (.t 0) 0) none <| .op (.ext (.t 1) 1) none <| .op (.load true 3 (.t 26)) none <| .op (.load true 3 (.t 7)) none <| .op (.call false false 7 [(.c (.str [115, 46, 120])), (.t 1), (.t 0)]) none <| .op (.ext (.t 0) 0) none <| .op (.ext (.t 1) 1) none <| .op (.load true 3 (.t 31)) none <| .op (.load true 3 (.t 31)) none <| .op (.call false false 7 [(.c (.str [115, 32, 120])), (.t 1), (.t 0)]) none <| .op (.ext (.t 0) 0) none <| .op (.ext (.t 1) 1) none <| .op (.bin .neq (.t 10) (.c (.int .i64 5))) none <| .sel 2 (.t 0) false (.op (.bin .neq (.t 6) (.c (.int .i64 5))) none <| .nx [(.t 0)]) (.c (.bool true)) <| .sel 2 (.t 0) false (.op (.bin .neq (.t 2) (.c (.int .i64 5))) none <| .nx [(.t 0)]) (.c (.bool true)) <| .cond (.t 0) (.ret [(.c (.bool false))]) (.op (.load true 3 (.t 39)) none <| .op (.load true 3 (.t 39)) none <| .op (.call false false 12 [(.c (.str [115, 46, 120])), (.t 1), (.t 0)]) none <| .op (.call false false 15 [(.t 0)]) none <| .op (.cvt .u64 (.t 46)) none <| .op (.len false (.t 1)) none <| .op (.cvt .u64 (.t 0)) none <| .op (.bin .rem (.t 2) (.t 0)) none <| .op (.cvt .i64 (.t 0)) none <| .op (.bin .eql (.t 52) (.c (.int .u8 13))) none <| .sel 2 (.t 0) false (.op (.bin .eql (.t 53) (.c (.int .u8 10))) none <| .nx [(.t 0)]) (.c (.bool true)) <| .cond (.t 0) (.op (.call false false 14 []) none <| .ret [(.t 0)]) (.join [17, 18] (.block 0 (.loop [(.t 2), (.t 54), (.t 7), (.c (.sl .nil 0 0 [])), (.c (.sl .nil 0 0 [])), (.c (.int .i64 0))] q4_2)) q4_3)))
def l4 : LF := ⟨167, 4, [], [.t 0], q4, false⟩
theorem t4 : treeOf Tryd.prog Tryd.f4 (fun d => if d = 4 then 4 else if d = 5 then 4 else if d = 17 then 2 else if d = 18 then 2 else if d = 103 then 2 else if d = 108 then 2 else if d = 109 then 2 else if d = 114 then 2 else if d = 116 then 2 else if d = 120 then 2 else if d = 123 then 2 else if d = 124 then 2 else if d = 126 then 2 else if d = 127 then 2 else if d = 129 then 2 else 0) (fun d => if d = 0 then [2, 3, 16, 17, 18, 19] else []) false [] 4 100000 q4 = some l4 := by kernel_rfl
/-! wherry/wherrylaw16.ReportBack -/
def q5 : LC := .op (.boxc (.t 1)) none <| .op (.boxc (.t 3)) none <| .op (.len true (.t 2)) none <| .op (.fad 1 (.t 2)) none <| .op (.load false 1 (.t 0)) none <| .op (.len true (.t 0)) none <| .op (.bin .add (.t 3) (.t 0)) none <| .op (.fad 2 (.t 6)) none <| .op (.load false 1 (.t 0)) none <| .op (.len true (.t 0)) none <| .op (.bin .add (.t 3) (.t 0)) none <| .op (.fad 1 (.t 9)) none <| .op (.load false 1 (.t 0)) none <| .op (.len true (.t 0)) none <| .op (.bin .add (.t 3) (.t 0)) none <| .op (.fad 2 (.t 13)) none <| .op (.load false 1 (.t 0)) none <| .op (.len true (.t 0)) none <| .op (.bin .add (.t 3) (.t 0)) none <| .op (.bin .gtr (.t 0) (.c (.int .i64 2000))) none <| .cond (.t 0) (.ret [(.c (.bool true))]) (.op (.load true 3 (.t 19)) none <| .op (.load true 3 (.t 19)) none <| .op (.call false false 7 [(.t 22), (.t 1), (.t 0)]) none <| .op (.ext (.t 0) 0) none <| .op (.ext (.t 1) 1) none <| .op (.bin .neq (.t 0) (.c (.int .i64 0))) none <| .cond (.t 0) (.op (.bin .eql (.t 1) (.c (.int .i64 5))) none <| .sel 3 (.t 0) true (.op (.len false (.t 3)) none <| .op (.bin .eql (.t 0) (.c (.int .i64 0))) none <| .nx [(.t 0)]) (.c (.bool false)) <| .sel 1 (.t 0) true (.op (.call false false 14 []) none <| .nx [(.t 0)]) (.c (.bool false)) <| .ret [(.t 0)]) (.op (.call false false 8 [(.t 2)]) none <| .op (.ext (.t 0) 0) none <| .op (.ext (.t 1) 1) none <| .op (.ext (.t 2) 2) none <| .op (.ext (.t 3) 3) none <| .op (.alloc [.bool false, .str [], .str []]) none <| .op (.alloc [.bool false, .str [], .str []]) none <| .op (.store 3 (.t 1) (.t 4)) none <| .op (.store 3 (.t 1) (.t 4)) none <| .op (.call false false 16 [(.t 11)]) none <| .op (.ext (.t 0) 0) none <| .op (.ext (.t 1) 1) none <| .op (.ext (.t 2) 2) none <| .op (.bin .neq (.t 8) (.c (.int .i64 0))) none <| .sel 2 (.t 0) false (.op (.bin .neq (.t 1) (.c (.int .i64 0))) none <| .nx [(.t 0)]) (.c (.bool true)) <| .sel 3 (.t 0) false (.op (.bin .neq (.t 13) (.t 41)) none <| .nx [(.t 0)]) (.c (.bool true)) <| .sel 4 (.t 0) false (.op (.load true 3 (.t 10)) none <| .op (.load true 3 (.t 42)) none <| .op (.call false false 13 [(.t 1), (.t 0)]) none <| .op (.un .not (.t 0)) none <| .nx [(.t 0)]) (.c (.bool true)) <| .sel 4 (.t 0) false (.op (.load true 3 (.t 10)) none <| .op (.load true 3 (.t 42)) none <| .op (.call false false 13 [(.t 1), (.t 0)]) none <| .op (.un .not (.t 0)) none <| .nx [(.t 0)]) (.c (.bool true)) <| .sel 3 (.t 0) false (.op (.len false (.t 7)) none <| .op (.bin .neq (.t 0) (.c (.int .i64 4))) none <| .nx [(.t 0)]) (.c (.bool true)) <| .sel 3 (.t 0) false (.op (.len false (.t 21)) none <| .op (.bin .eql (.t 0) (.c (.int .i64 0))) none <| .nx [(.t 0)]) (.c (.bool true)) <| .sel 3 (.t 0) false (.op (.call false false 17 [(.t 22)]) none <| .op (.bin .neq (.t 0) (.c (.int .i64 0))) none <| .nx [(.t 0)]) (.c (.bool true)) <| .cond (.t 0) (.ret [(.c (.bool false))]) (.op (.len false (.t 23)) none <| .op (.bin .sub (.t 0) (.c (.int .i64 1))) none <| .op (.cut 1 (.t 25) none (some (.t 0))) none <| .op (.call false false 8 [(.t 0)]) none <| .op (.ext (.t 0) 0) none <| .op (.ext (.t 1) 1) none <| .op (.ext (.t 2) 2) none <| .op (.ext (.t 3) 3) none <| .op (.alloc [.bool false, .str [], .str []]) none <| .op (.alloc [.bool false, .str [], .str []]) none <| .op (.store 3 (.t 1) (.t 4)) none <| .op (.store 3 (.t 1) (.t 4)) none <| .op (.call false true 6 [(.t 35)]) none <| .op (.lit false 1 1 [.int .u8 0] [(0, 1, (.t 63))]) none <| .op (.app 1 1 (.t 1) (.t 0)) none <| .op (.call false false 8 [(.t 0)]) none <| .op (.ext (.t 0) 0) none <| .op (.ext (.t 1) 1) none <| .op (.ext (.t 2) 2) none <| .op (.ext (.t 3) 3) none <| .op (.alloc [.bool false, .str [], .str []]) none <| .op (.alloc [.bool false, .str [], .str []]) none <| .op (.store 3 (.t 1) (.t 4)) none <| .op (.store 3 (.t 1) (.t 4)) none <| .op (.bin .eql (.t 16) (.c (.int .i64 5))) none <| .sel 2 (.t 0) true (.op (.bin .eql (.t 5) (.c (.int .i64 5))) none <| .nx [(.t 0)]) (.c (.bool false)) <| .sel 1 (.t 0) true (.op (.call false false 14 []) none <| .nx [(.t 0)]) (.c (.bool false)) <| .ret [(.t 0)])))
def l5 : LF := ⟨146, 4, [], [.t 0], q5, false⟩
theorem t5 : treeOf Tryd.prog Tryd.f5 (fun d => if d = 5 then 4 else if d = 6 then 4 else if d = 128 then 2 else 0) (fun _ => []) false [] 4 100000 q5 = some l5 := by kernel_rfl
/-! wherry/wherrykeep.Twin -/
def q6 : LC := .op (.app 1 1 (.c (.sl .nil 0 0 [])) (.t 0)) none <| .ret [(.t 0)]
def l6 : LF := ⟨7, 1, [], [.t 0], q6, false⟩
theorem t6 : treeOf Tryd.prog Tryd.f6 (fun d => if d = 3 then 2 else if d = 4 then 2 else 0) (fun _ => []) false [] 1 100000 q6 = some l6 := by kernel_rfl
/-! wherry/report.Build -/
def q7 : LC := .op (.boxc (.t 1)) none <| .op (.boxc (.t 3)) none <| .op (.load true 3 (.t 1)) none <| .op (.call false false 18 [(.t 0)]) none <| .op (.ext (.t 0) 0) none <| .op (.ext (.t 1) 1) none <| .op (.load true 3 (.t 4)) none <| .op (.call false false 18 [(.t 0)]) none <| .op (.ext (.t 0) 0) none <| .op (.ext (.t 1) 1) none <| .op (.call false false 19 [(.t 10)]) none <| .op (.un .not (.t 0)) none <| .sel 2 (.t 0) false (.op (.bin .neq (.t 6) (.c (.int .i64 0))) none <| .nx [(.t 0)]) (.c (.bool true)) <| .sel 2 (.t 0) false (.op (.bin .neq (.t 3) (.c (.int .i64 0))) none <| .nx [(.t 0)]) (.c (.bool true)) <| .sel 2 (.t 0) false (.op (.fad 0 (.t 13)) none <| .op (.load false 1 (.t 0)) none <| .nx [(.t 0)]) (.c (.bool true)) <| .sel 2 (.t 0) false (.op (.fad 0 (.t 13)) none <| .op (.load false 1 (.t 0)) none <| .nx [(.t 0)]) (.c (.bool true)) <| .cond (.t 0) (.ret [(.c (.sl .nil 0 0 [])), (.c (.int .i64 5))]) (.op (.bin .add (.c (.str [70, 114, 111, 109, 58, 32, 60, 112, 111, 115, 116, 109, 97, 115, 116, 101, 114, 64])) (.t 16)) none <| .op (.bin .add (.t 0) (.c (.str [62]))) none <| .op (.bin .add (.c (.str [84, 111, 58, 32])) (.t 13)) none <| .op (.bin .add (.c (.str [78, 111, 32, 119, 97, 121, 32, 119, 97, 115, 32, 102, 111, 117, 110, 100, 32, 116, 111, 32])) (.t 10)) none <| .op (.bin .add (.t 0) (.c (.str [46]))) none <| .op (.bin .add (.c (.str [82, 101, 112, 111, 114, 116, 105, 110, 103, 45, 77, 84, 65, 58, 32, 100, 110, 115, 59, 32])) (.t 21)) none <| .op (.bin .add (.c (.str [70, 105, 110, 97, 108, 45, 82, 101, 99, 105, 112, 105, 101, 110, 116, 58, 32, 114, 102, 99, 56, 50, 50, 59, 32])) (.t 13)) none <| .op (.lit false 1 19 [.str [], .str [], .str [], .str [], .str [], .str [], .str [], .str [], .str [], .str [], .str [], .str [], .str [], .str [], .str [], .str [], .str [], .str [], .str []] [(0, 1, (.t 5)), (1, 1, (.t 4)), (2, 1, (.c (.str [83, 117, 98, 106, 101, 99, 116, 58, 32, 85, 110, 100, 101, 108, 105, 118, 101, 114, 101, 100, 32, 109, 97, 105, 108]))), (3, 1, (.c (.str [67, 111, 110, 116, 101, 110, 116, 45, 84, 121, 112, 101, 58, 32, 109, 117, 108, 116, 105, 112, 97, 114, 116, 47, 114, 101, 112, 111, 114, 116, 59, 32, 114, 101, 112, 111, 114, 116, 45, 116, 121, 112, 101, 61, 100, 101, 108, 105, 118, 101, 114, 121, 45, 115, 116, 97, 116, 117, 115, 59, 32, 98, 111, 117, 110, 100, 97, 114, 121, 61, 119]))), (4, 1, (.c (.str []))), (5, 1, (.c (.str [45, 45, 119]))), (6, 1, (.c (.str [67, 111, 110, 116, 101, 110, 116, 45, 84, 121, 112, 101, 58, 32, 116, 101, 120, 116, 47, 112, 108, 97, 105, 110]))), (7, 1, (.c (.str []))), (8, 1, (.t 2)), (9, 1, (.c (.str [45, 45, 119]))), (10, 1, (.c (.str [67, 111, 110, 116, 101, 110, 116, 45, 84, 121, 112, 101, 58, 32, 109, 101, 115, 115, 97, 103, 101, 47, 100, 101, 108, 105, 118, 101, 114, 121, 45, 115, 116, 97, 116, 117, 115]))), (11, 1, (.c (.str []))), (12, 1, (.t 1)), (13, 1, (.c (.str []))), (14, 1, (.t 0)), (15, 1, (.c (.str [65, 99, 116, 105, 111, 110, 58, 32, 102, 97, 105, 108, 101, 100]))), (16, 1, (.c (.str [83, 116, 97, 116, 117, 115, 58, 32, 52, 46, 52, 46, 55]))), (17, 1, (.c (.str [45, 45, 119, 45, 45]))), (18, 1, (.c (.str [])))]) none <| .op (.call false false 20 [(.t 0), (.c (.str [13, 10]))]) none <| .op (.s2b false (.t 0)) none <| .ret [(.t 0), (.c (.int .i64 0))])
def l7 : LF := ⟨58, 3, [], [.t 0, .t 1], q7, false⟩
theorem t7 : treeOf Tryd.prog Tryd.f7 (fun d => if d = 4 then 4 else if d = 5 then 4 else 0) (fun _ => []) false [] 3 100000 q7 = some l7 := by kernel_rfl
/-! wherry/report.Read -/
def q8 : LC := .op (.alloc [.bool false, .str [], .str []]) none <| .op (.alloc [.bool false, .str [], .str []]) none <| .op (.call false false 21 [(.t 2)]) none <| .op (.len false (.t 0)) none <| .op (.bin .leq (.t 0) (.c (.int .i64 14))) none <| .cond (.t 0) (.op (.build [.bool false, .str [], .str []] []) none <| .op (.build [.bool false, .str [], .str []] []) none <| .op (.store 3 (.t 6) (.t 1)) none <| .op (.store 3 (.t 6) (.t 1)) none <| .ret [(.c (.str [])), (.t 8), (.t 7), (.c (.int .i64 5))]) (.op (.iad 1 (.t 2) (.c (.int .i64 12))) none <| .op (.load false 1 (.t 0)) none <| .op (.b2s (.t 0)) none <| .op (.call false false 22 [(.t 0), (.c (.str [82, 101, 112, 111, 114, 116, 105, 110, 103, 45, 77, 84, 65, 58, 32, 100, 110, 115, 59, 32]))]) none <| .op (.iad 1 (.t 6) (.c (.int .i64 1))) none <| .op (.load false 1 (.t 0)) none <| .op (.b2s (.t 0)) none <| .op (.call false false 22 [(.t 0), (.c (.str [84, 111, 58, 32]))]) none <| .op (.call false false 23 [(.t 0)]) none <| .op (.ext (.t 0) 0) none <| .op (.ext (.t 1) 1) none <| .op (.store 3 (.t 15) (.t 1)) none <| .op (.iad 1 (.t 14) (.c (.int .i64 14))) none <| .op (.load false 1 (.t 0)) none <| .op (.b2s (.t 0)) none <| .op (.call false false 22 [(.t 0), (.c (.str [70, 105, 110, 97, 108, 45, 82, 101, 99, 105, 112, 105, 101, 110, 116, 58, 32, 114, 102, 99, 56, 50, 50, 59, 32]))]) none <| .op (.call false false 23 [(.t 0)]) none <| .op (.ext (.t 0) 0) none <| .op (.ext (.t 1) 1) none <| .op (.store 3 (.t 22) (.t 1)) none <| .op (.load true 3 (.t 24)) none <| .op (.load true 3 (.t 24)) none <| .op (.call false false 7 [(.t 18), (.t 1), (.t 0)]) none <| .op (.ext (.t 0) 0) none <| .op (.ext (.t 1) 1) none <| .op (.bin .neq (.t 0) (.c (.int .i64 0))) none <| .sel 4 (.t 0) false (.op (.call false false 24 [(.t 2), (.t 31)]) none <| .op (.un .not (.t 0)) none <| .nx [(.t 0)]) (.c (.bool true)) <| .cond (.t 0) (.op (.build [.bool false, .str [], .str []] []) none <| .op (.build [.bool false, .str [], .str []] []) none <| .op (.store 3 (.t 33) (.t 1)) none <| .op (.store 3 (.t 33) (.t 1)) none <| .ret [(.c (.str [])), (.t 35), (.t 34), (.c (.int .i64 5))]) (.op (.load true 3 (.t 31)) none <| .op (.load true 3 (.t 31)) none <| .op (.store 3 (.t 33) (.t 1)) none <| .op (.store 3 (.t 33) (.t 1)) none <| .op (.dif (.t 34) (.t 35)) none <| .ret [(.t 28), (.t 36), (.t 35), (.c (.int .i64 0))]))
def l8 : LF := ⟨58, 1, [], [.t 0, .cell 1 true 3, .cell 2 true 3, .t 3], q8, false⟩
theorem t8 : treeOf Tryd.prog Tryd.f8 (fun _ => 0) (fun _ => []) false [] 1 100000 q8 = some l8 := by kernel_rfl
/-! wherry/wherryref11.ReadReport -/
def q9 : LC := .op (.alloc [.bool false, .str [], .str []]) none <| .op (.alloc [.bool false, .str [], .str []]) none <| .op (.call false false 15 [(.t 2)]) none <| .op (.len false (.t 0)) none <| .op (.bin .neq (.t 0) (.c (.int .i64 18))) none <| .cond (.t 0) (.op (.build [.bool false, .str [], .str []] []) none <| .op (.build [.bool false, .str [], .str []] []) none <| .op (.store 3 (.t 6) (.t 1)) none <| .op (.store 3 (.t 6) (.t 1)) none <| .ret [(.c (.str [])), (.t 8), (.t 7), (.c (.bool false))]) (.op (.iad 1 (.t 2) (.c (.int .i64 12))) none <| .op (.load false 1 (.t 0)) none <| .op (.b2s (.t 0)) none <| .op (.call false false 25 [(.t 0), (.c (.str [114, 101, 112, 111, 114, 116, 105, 110, 103, 45, 109, 116, 97, 58, 32, 100, 110, 115, 59, 32]))]) none <| .op (.ext (.t 0) 0) none <| .op (.ext (.t 1) 1) none <| .op (.iad 1 (.t 8) (.c (.int .i64 1))) none <| .op (.load false 1 (.t 0)) none <| .op (.b2s (.t 0)) none <| .op (.call false false 25 [(.t 0), (.c (.str [116, 111, 58, 32]))]) none <| .op (.ext (.t 0) 0) none <| .op (.ext (.t 1) 1) none <| .op (.iad 1 (.t 14) (.c (.int .i64 14))) none <| .op (.load false 1 (.t 0)) none <| .op (.b2s (.t 0)) none <| .op (.call false false 25 [(.t 0), (.c (.str [102, 105, 110, 97, 108, 45, 114, 101, 99, 105, 112, 105, 101, 110, 116, 58, 32, 114, 102, 99, 56, 50, 50, 59, 32]))]) none <| .op (.ext (.t 0) 0) none <| .op (.ext (.t 1) 1) none <| .op (.call false false 26 [(.t 7)]) none <| .op (.ext (.t 0) 0) none <| .op (.ext (.t 1) 1) none <| .op (.alloc [.bool false, .str [], .str []]) none <| .op (.store 3 (.t 0) (.t 2)) none <| .op (.call false false 26 [(.t 6)]) none <| .op (.ext (.t 0) 0) none <| .op (.ext (.t 1) 1) none <| .op (.alloc [.bool false, .str [], .str []]) none <| .op (.store 3 (.t 0) (.t 2)) none <| .op (.un .not (.t 22)) none <| .sel 2 (.t 0) false (.op (.un .not (.t 17)) none <| .nx [(.t 0)]) (.c (.bool true)) <| .sel 2 (.t 0) false (.op (.un .not (.t 12)) none <| .nx [(.t 0)]) (.c (.bool true)) <| .sel 2 (.t 0) false (.op (.un .not (.t 10)) none <| .nx [(.t 0)]) (.c (.bool true)) <| .sel 2 (.t 0) false (.op (.un .not (.t 6)) none <| .nx [(.t 0)]) (.c (.bool true)) <| .sel 5 (.t 0) false (.op (.load true 3 (.t 11)) none <| .op (.load true 3 (.t 7)) none <| .op (.call false false 10 [(.t 30), (.t 1), (.t 0)]) none <| .op (.un .not (.t 0)) none <| .nx [(.t 0)]) (.c (.bool true)) <| .sel 7 (.t 0) false (.op (.load true 3 (.t 12)) none <| .op (.load true 3 (.t 8)) none <| .op (.call false false 12 [(.t 31), (.t 1), (.t 0)]) none <| .op (.call false false 11 [(.t 0), (.t 42)]) none <| .op (.un .not (.t 0)) none <| .nx [(.t 0)]) (.c (.bool true)) <| .cond (.t 0) (.op (.build [.bool false, .str [], .str []] []) none <| .op (.build [.bool false, .str [], .str []] []) none <| .op (.store 3 (.t 41) (.t 1)) none <| .op (.store 3 (.t 41) (.t 1)) none <| .ret [(.c (.str [])), (.t 43), (.t 42), (.c (.bool false))]) (.op (.load true 3 (.t 13)) none <| .op (.load true 3 (.t 9)) none <| .op (.store 3 (.t 41) (.t 1)) none <| .op (.store 3 (.t 41) (.t 1)) none <| .op (.dif (.t 12) (.t 43)) none <| .ret [(.t 35), (.t 44), (.t 43), (.c (.bool true))]))
def l9 : LF := ⟨97, 1, [], [.t 0, .cell 1 true 3, .cell 2 true 3, .t 3], q9, false⟩
theorem t9 : treeOf Tryd.prog Tryd.f9 (fun _ => 0) (fun _ => []) false [] 1 100000 q9 = some l9 := by kernel_rfl
/-! wherry/wherryref11.RightReport -/
def q10 : LC := .op (.boxc (.t 1)) none <| .op (.boxc (.t 3)) none <| .op (.call false false 27 [(.t 2)]) none <| .sel 2 (.t 0) true (.op (.load true 3 (.t 2)) none <| .op (.call false false 28 [(.t 0)]) none <| .nx [(.t 0)]) (.c (.bool false)) <| .sel 2 (.t 0) true (.op (.load true 3 (.t 2)) none <| .op (.call false false 28 [(.t 0)]) none <| .nx [(.t 0)]) (.c (.bool false)) <| .sel 3 (.t 0) true (.op (.fad 0 (.t 4)) none <| .op (.load false 1 (.t 0)) none <| .op (.un .not (.t 0)) none <| .nx [(.t 0)]) (.c (.bool false)) <| .sel 3 (.t 0) true (.op (.fad 0 (.t 4)) none <| .op (.load false 1 (.t 0)) none <| .op (.un .not (.t 0)) none <| .nx [(.t 0)]) (.c (.bool false)) <| .ret [(.t 0)]
def l10 : LF := ⟨27, 3, [], [.t 0], q10, false⟩
theorem t10 : treeOf Tryd.prog Tryd.f10 (fun d => if d = 4 then 4 else if d = 5 then 4 else 0) (fun _ => []) false [] 3 100000 q10 = some l10 := by kernel_rfl
/-! wherry/wherrykeep.Bytes -/
def q11_0 : LC := .op (.bin .add (.t 2) (.c (.int .i64 1))) none <| .nx [(.t 1), (.t 2), (.t 0)]
def q11_1 : LC := .op (.len false (.t 0)) none <| .op (.bin .lss (.t 3) (.t 0)) none <| .cond (.t 0) (.join [0, 1, 5] (.block 1 (.op (.iad 1 (.t 2) (.t 4)) none <| .op (.load false 1 (.t 0)) none <| .op (.iad 1 (.t 5) (.t 6)) none <| .op (.load false 1 (.t 0)) none <| .op (.bin .neq (.t 2) (.t 0)) none <| .cond (.t 0) (.ret [(.c (.bool false))]) (.nx [(.t 7), (.t 8), (.t 9)]))) q11_0) (.exit 0 [])
def q11_2 : LC := .ret [(.c (.bool true))]
def q11 : LC := .op (.len false (.t 0)) none <| .op (.len false (.t 2)) none <| .op (.bin .neq (.t 1) (.t 0)) none <| .cond (.t 0) (.ret [(.c (.bool false))]) (.join [] (.block 0 (.loop [(.t 3), (.t 4), (.c (.int .i64 0))] q11_1)) q11_2)
def l11 : LF := ⟨26, 2, [], [.t 0], q11, false⟩
theorem t11 : treeOf Tryd.prog Tryd.f11 (fun _ => 0) (fun d => if d = 0 then [0, 1, 5] else []) false [] 2 100000 q11 = some l11 := by kernel_rfl
/-! wherry/wherryref11.Report -/
def q12_0 : LC := .op (.bin .add (.t 2) (.c (.int .i64 1))) none <| .nx [(.t 1), (.t 2), (.t 0)]
def q12_1 : LC := .op (.len false (.t 0)) none <| .op (.bin .lss (.t 3) (.t 0)) none <| .cond (.t 0) (.join [7, 8, 9] (.block 1 (.op (.iad 1 (.t 2) (.t 4)) none <| .op (.load false 1 (.t 0)) none <| .op (.bin .add (.t 5) (.t 0)) none <| .op (.bin .add (.t 0) (.c (.str [13, 10]))) none <| .nx [(.t 6), (.t 0), (.t 8)])) q12_0) (.exit 0 [(.t 3)])
def q12_2 : LC := .op (.s2b false (.t 0)) none <| .ret [(.t 0)]
def q12 : LC := .op (.boxc (.t 1)) none <| .op (.boxc (.t 3)) none <| .op (.bin .add (.c (.str [70, 114, 111, 109, 58, 32, 60, 112, 111, 115, 116, 109, 97, 115, 116, 101, 114, 64])) (.t 2)) none <| .op (.bin .add (.t 0) (.c (.str [62]))) none <| .op (.load true 3 (.t 3)) none <| .op (.call false false 29 [(.t 0)]) none <| .op (.bin .add (.c (.str [84, 111, 58, 32])) (.t 0)) none <| .op (.load true 3 (.t 5)) none <| .op (.call false false 29 [(.t 0)]) none <| .op (.bin .add (.c (.str [78, 111, 32, 119, 97, 121, 32, 119, 97, 115, 32, 102, 111, 117, 110, 100, 32, 116, 111, 32])) (.t 0)) none <| .op (.bin .add (.t 0) (.c (.str [46]))) none <| .op (.bin .add (.c (.str [82, 101, 112, 111, 114, 116, 105, 110, 103, 45, 77, 84, 65, 58, 32, 100, 110, 115, 59, 32])) (.t 11)) none <| .op (.load true 3 (.t 10)) none <| .op (.call false false 29 [(.t 0)]) none <| .op (.bin .add (.c (.str [70, 105, 110, 97, 108, 45, 82, 101, 99, 105, 112, 105, 101, 110, 116, 58, 32, 114, 102, 99, 56, 50, 50, 59, 32])) (.t 0)) none <| .op (.lit false 1 18 [.str [], .str [], .str [], .str [], .str [], .str [], .str [], .str [], .str [], .str [], .str [], .str [], .str [], .str [], .str [], .str [], .str [], .str []] [(0, 1, (.t 11)), (1, 1, (.t 8)), (2, 1, (.c (.str [83, 117, 98, 106, 101, 99, 116, 58, 32, 85, 110, 100, 101, 108, 105, 118, 101, 114, 101, 100, 32, 109, 97, 105, 108]))), (3, 1, (.c (.str [67, 111, 110, 116, 101, 110, 116, 45, 84, 121, 112, 101, 58, 32, 109, 117, 108, 116, 105, 112, 97, 114, 116, 47, 114, 101, 112, 111, 114, 116, 59, 32, 114, 101, 112, 111, 114, 116, 45, 116, 121, 112, 101, 61, 100, 101, 108, 105, 118, 101, 114, 121, 45, 115, 116, 97, 116, 117, 115, 59, 32, 98, 111, 117, 110, 100, 97, 114, 121, 61, 119]))), (4, 1, (.c (.str []))), (5, 1, (.c (.str [45, 45, 119]))), (6, 1, (.c (.str [67, 111, 110, 116, 101, 110, 116, 45, 84, 121, 112, 101, 58, 32, 116, 101, 120, 116, 47, 112, 108, 97, 105, 110]))), (7, 1, (.c (.str []))), (8, 1, (.t 4)), (9, 1, (.c (.str [45, 45, 119]))), (10, 1, (.c (.str [67, 111, 110, 116, 101, 110, 116, 45, 84, 121, 112, 101, 58, 32, 109, 101, 115, 115, 97, 103, 101, 47, 100, 101, 108, 105, 118, 101, 114, 121, 45, 115, 116, 97, 116, 117, 115]))), (11, 1, (.c (.str []))), (12, 1, (.t 3)), (13, 1, (.c (.str []))), (14, 1, (.t 0)), (15, 1, (.c (.str [65, 99, 116, 105, 111, 110, 58, 32, 102, 97, 105, 108, 101, 100]))), (16, 1, (.c (.str [83, 116, 97, 116, 117, 115, 58, 32, 52, 46, 52, 46, 55]))), (17, 1, (.c (.str [45, 45, 119, 45, 45])))]) none <| .join [8] (.block 0 (.loop [(.t 0), (.c (.str [])), (.c (.int .i64 0))] q12_1)) q12_2
def l12 : LF := ⟨41, 3, [], [.t 0], q12, false⟩
theorem t12 : treeOf Tryd.prog Tryd.f12 (fun d => if d = 4 then 4 else if d = 5 then 4 else 0) (fun d => if d = 0 then [7, 8, 9] else []) false [] 3 100000 q12 = some l12 := by kernel_rfl
/-! wherry/wherrykeep.Path -/
def q13 : LC := .op (.box (.t 0)) none <| .op (.box (.t 2)) none <| .op (.fad 0 (.t 1)) none <| .op (.load false 1 (.t 0)) none <| .op (.fad 0 (.t 2)) none <| .op (.load false 1 (.t 0)) none <| .op (.beq false (.t 2) (.t 0)) none <| .sel 5 (.t 0) true (.op (.fad 1 (.t 6)) none <| .op (.load false 1 (.t 0)) none <| .op (.fad 1 (.t 7)) none <| .op (.load false 1 (.t 0)) none <| .op (.bin .eql (.t 2) (.t 0)) none <| .nx [(.t 0)]) (.c (.bool false)) <| .sel 5 (.t 0) true (.op (.fad 2 (.t 7)) none <| .op (.load false 1 (.t 0)) none <| .op (.fad 2 (.t 8)) none <| .op (.load false 1 (.t 0)) none <| .op (.bin .eql (.t 2) (.t 0)) none <| .nx [(.t 0)]) (.c (.bool false)) <| .ret [(.t 0)]
def l13 : LF := ⟨24, 2, [], [.t 0], q13, false⟩
theorem t13 : treeOf Tryd.prog Tryd.f13 (fun _ => 0) (fun _ => []) false [] 2 100000 q13 = some l13 := by kernel_rfl
/-! wherry/wherrylaw16.wakes -/
def q14 : LC := .op (.build [.bool false, .str [], .str []] [(1, 1, (.c (.str [97]))), (2, 1, (.c (.str [120])))]) none <| .op (.build [.bool false, .str [], .str []] [(1, 1, (.c (.str [98]))), (2, 1, (.c (.str [121])))]) none <| .op (.alloc [.bool false, .str [], .str []]) none <| .op (.alloc [.bool false, .str [], .str []]) none <| .op (.store 3 (.t 1) (.t 3)) none <| .op (.store 3 (.t 1) (.t 3)) none <| .op (.load true 3 (.t 3)) none <| .op (.load true 3 (.t 3)) none <| .op (.call false false 7 [(.c (.str [115])), (.t 1), (.t 0)]) none <| .op (.ext (.t 0) 0) none <| .op (.ext (.t 1) 1) none <| .op (.call false false 8 [(.t 1)]) none <| .op (.ext (.t 0) 0) none <| .op (.ext (.t 1) 1) none <| .op (.ext (.t 2) 2) none <| .op (.ext (.t 3) 3) none <| .op (.alloc [.bool false, .str [], .str []]) none <| .op (.alloc [.bool false, .str [], .str []]) none <| .op (.store 3 (.t 1) (.t 4)) none <| .op (.store 3 (.t 1) (.t 4)) none <| .op (.bin .eql (.t 9) (.c (.int .i64 0))) none <| .sel 2 (.t 0) true (.op (.bin .eql (.t 5) (.c (.int .i64 0))) none <| .nx [(.t 0)]) (.c (.bool false)) <| .sel 2 (.t 0) true (.op (.bin .eql (.t 9) (.c (.str [115]))) none <| .nx [(.t 0)]) (.c (.bool false)) <| .sel 3 (.t 0) true (.op (.load true 3 (.t 6)) none <| .op (.load true 3 (.t 21)) none <| .op (.call false false 13 [(.t 1), (.t 0)]) none <| .nx [(.t 0)]) (.c (.bool false)) <| .sel 3 (.t 0) true (.op (.load true 3 (.t 6)) none <| .op (.load true 3 (.t 21)) none <| .op (.call false false 13 [(.t 1), (.t 0)]) none <| .nx [(.t 0)]) (.c (.bool false)) <| .sel 4 (.t 0) true (.op (.call false false 15 [(.t 15)]) none <| .op (.len false (.t 0)) none <| .op (.bin .eql (.t 0) (.c (.int .i64 18))) none <| .nx [(.t 0)]) (.c (.bool false)) <| .ret [(.t 0)]
def l14 : LF := ⟨50, 0, [], [.t 0], q14, false⟩
theorem t14 : treeOf Tryd.prog Tryd.f14 (fun _ => 0) (fun _ => []) false [] 0 100000 q14 = some l14 := by kernel_rfl
/-! wherry/wherryref11.Lines -/
def q15_0 : LC := .op (.call false false 30 [(.t 0), (.t 2)]) none <| .nx [(.t 1), (.t 2), (.t 3), (.t 0)]
def q15_1 : LC := .op (.bin .geq (.t 3) (.c (.int .i64 0))) none <| .cond (.t 0) (.join [0, 3, 4] (.block 1 (.op (.cut 1 (.t 1) (some (.t 3)) (some (.t 4))) none <| .op (.call false false 6 [(.t 0)]) none <| .op (.lit false 1 1 [.sl .nil 0 0 []] [(0, 1, (.t 0))]) none <| .op (.app 1 24 (.t 5) (.t 0)) none <| .op (.bin .add (.t 8) (.c (.int .i64 2))) none <| .nx [(.t 6), (.t 1), (.t 0)])) q15_0) (.exit 0 [(.t 2)])
def q15_2 : LC := .ret [(.t 0)]
def q15 : LC := .op (.call false false 30 [(.t 0), (.c (.int .i64 0))]) none <| .join [3] (.block 0 (.loop [(.t 1), (.c (.sl .nil 0 0 [])), (.c (.int .i64 0)), (.t 0)] q15_1)) q15_2
def l15 : LF := ⟨24, 1, [], [.t 0], q15, false⟩
theorem t15 : treeOf Tryd.prog Tryd.f15 (fun d => if d = 3 then 2 else if d = 13 then 2 else if d = 20 then 2 else 0) (fun d => if d = 0 then [0, 3, 4, 5] else []) false [] 1 100000 q15 = some l15 := by kernel_rfl
/-! wherry/head.Scan -/
def q16_0 : LC := .op (.len false (.t 2)) none <| .op (.bin .add (.t 0) (.c (.int .i64 2))) none <| .op (.bin .add (.t 3) (.t 0)) none <| .nx [(.t 3), (.t 0), (.t 6), (.t 7), (.t 8)]
def q16_1 : LC := .op (.bin .add (.t 4) (.c (.int .i64 1))) none <| .nx [(.t 1), (.t 2), (.t 3), (.t 4), (.t 0)]
def q16_2 : LC := .op (.bin .lss (.t 4) (.t 3)) none <| .cond (.t 0) (.join [6, 7, 20, 21, 22] (.block 1 (.op (.iad 1 (.t 3) (.t 5)) none <| .op (.load false 1 (.t 0)) none <| .op (.call false false 31 [(.t 0)]) none <| .op (.ext (.t 0) 0) none <| .op (.ext (.t 1) 1) none <| .op (.ext (.t 2) 2) none <| .op (.len false (.t 4)) none <| .op (.bin .gtr (.t 0) (.c (.int .i64 0))) none <| .sel 10 (.t 0) true (.op (.iad 1 (.t 6) (.c (.int .i64 0))) none <| .op (.load false 1 (.t 0)) none <| .op (.bin .eql (.t 0) (.c (.int .u8 32))) none <| .sel 4 (.t 0) false (.op (.iad 1 (.t 9) (.c (.int .i64 0))) none <| .op (.load false 1 (.t 0)) none <| .op (.bin .eql (.t 0) (.c (.int .u8 9))) none <| .nx [(.t 0)]) (.c (.bool true)) <| .nx [(.t 0)]) (.c (.bool false)) <| .sel 3 (.t 0) true (.op (.len false (.t 10)) none <| .op (.bin .gtr (.t 0) (.c (.int .i64 0))) none <| .nx [(.t 0)]) (.c (.bool false)) <| .join [6, 7, 9, 20, 21, 22] (.block 2 (.cond (.t 4) (.op (.build [.str [], .str []] [(0, 1, (.t 6)), (1, 1, (.t 5))]) none <| .op (.lit false 2 1 [.str [], .str []] [(0, 2, (.t 0))]) none <| .op (.appr 2 32 (.t 13) (.t 0)) none <| .nx [(.t 0), (.t 15), (.t 11), (.t 16), (.t 17), (.t 18)]) (.cond (.t 0) (.op (.len false (.t 11)) none <| .op (.bin .sub (.t 0) (.c (.int .i64 1))) none <| .op (.iad 2 (.t 13) (.t 0)) none <| .op (.fad 1 (.t 0)) none <| .op (.load false 1 (.t 0)) none <| .op (.b2s (.t 13)) none <| .op (.bin .add (.t 1) (.t 0)) none <| .op (.iad 2 (.t 18) (.t 5)) none <| .op (.fad 1 (.t 0)) none <| .op (.store 1 (.t 0) (.t 2)) none <| .nx [(.t 21), (.t 22), (.t 18), (.t 23), (.t 24), (.t 25)]) (.op (.len false (.t 8)) none <| .op (.bin .eql (.t 0) (.c (.int .i64 0))) none <| .cond (.t 0) (.op (.bin .add (.t 14) (.c (.int .i64 2))) none <| .ret [(.t 14), (.t 0), (.c (.int .i64 0))]) (.ret [(.t 13), (.t 14), (.c (.int .i64 0))]))))) q16_0)) q16_1) (.exit 0 [(.t 1), (.t 2)])
def q16_3 : LC := .ret [(.t 0), (.t 1), (.c (.int .i64 0))]
def q16 : LC := .op (.call false false 17 [(.t 0)]) none <| .op (.bin .neq (.t 0) (.c (.int .i64 0))) none <| .cond (.t 0) (.ret [(.c (.sl .nil 0 0 [])), (.c (.int .i64 0)), (.t 1)]) (.op (.call false false 21 [(.t 2)]) none <| .op (.len false (.t 0)) none <| .join [6, 7] (.block 0 (.loop [(.c (.sl .nil 0 0 [])), (.c (.int .i64 0)), (.t 1), (.t 0), (.c (.int .i64 0))] q16_2)) q16_3)
def l16 : LF := ⟨91, 1, [], [.t 0, .t 1, .t 2], q16, true⟩
theorem t16 : treeOf Tryd.prog Tryd.f16 (fun d => if d = 6 then 2 else if d = 56 then 2 else if d = 61 then 1 else 0) (fun d => if d = 0 then [6, 7, 20, 21, 22] else []) true [] 1 100000 q16 = some l16 := by kernel_rfl
/-! wherry/dots.Check -/
def q17_0 : LC := .op (.bin .add (.t 2) (.c (.int .i64 1))) none <| .nx [(.t 1), (.t 2), (.t 0)]
def q17_1 : LC := .op (.bin .lss (.t 2) (.t 1)) none <| .cond (.t 0) (.join [15, 16, 17] (.block 1 (.op (.iad 1 (.t 1) (.t 3)) none <| .op (.load false 1 (.t 0)) none <| .op (.call false false 34 [(.t 0), (.c (.int .u8 13))]) none <| .op (.bin .geq (.t 0) (.c (.int .i64 0))) none <| .sel 3 (.t 0) false (.op (.call false false 34 [(.t 2), (.c (.int .u8 10))]) none <| .op (.bin .geq (.t 0) (.c (.int .i64 0))) none <| .nx [(.t 0)]) (.c (.bool true)) <| .cond (.t 0) (.ret [(.c (.int .i64 5))]) (.nx [(.t 6), (.t 7), (.t 8)]))) q17_0) (.exit 0 [])
def q17_2 : LC := .ret [(.c (.int .i64 0))]
def q17 : LC := .op (.len false (.t 0)) none <| .op (.bin .gtr (.t 0) (.c (.int .i64 0))) none <| .sel 4 (.t 0) true (.op (.call false false 33 []) none <| .op (.call false false 32 [(.t 3), (.t 0)]) none <| .op (.un .not (.t 0)) none <| .nx [(.t 0)]) (.c (.bool false)) <| .cond (.t 0) (.ret [(.c (.int .i64 5))]) (.op (.call false false 21 [(.t 3)]) none <| .op (.len false (.t 0)) none <| .join [] (.block 0 (.loop [(.t 1), (.t 0), (.c (.int .i64 0))] q17_1)) q17_2)
def l17 : LF := ⟨30, 1, [], [.t 0], q17, false⟩
theorem t17 : treeOf Tryd.prog Tryd.f17 (fun _ => 0) (fun d => if d = 0 then [15, 16, 17] else []) false [] 1 100000 q17 = some l17 := by kernel_rfl
/-! wherry/path.Text -/
def q18_0 : LC := .op (.fad 1 (.t 0)) none <| .op (.load false 1 (.t 0)) none <| .op (.bin .add (.c (.str [60])) (.t 0)) none <| .op (.bin .add (.t 0) (.c (.str [64]))) none <| .op (.fad 2 (.t 4)) none <| .op (.load false 1 (.t 0)) none <| .op (.bin .add (.t 2) (.t 0)) none <| .op (.bin .add (.t 0) (.c (.str [62]))) none <| .ret [(.t 0), (.c (.int .i64 0))]
def q18 : LC := .op (.box (.t 0)) none <| .op (.load true 3 (.t 0)) none <| .op (.call false false 35 [(.t 0)]) none <| .join [1] (.block 0 (.op (.bin .neq (.t 0) (.c (.int .i64 0))) none <| .cond (.t 0) (.ret [(.c (.str [])), (.t 1)]) (.op (.fad 0 (.t 3)) none <| .op (.load false 1 (.t 0)) none <| .cond (.t 0) (.ret [(.c (.str [60, 62])), (.c (.int .i64 0))]) (.nx [(.t 5)])))) q18_0
def l18 : LF := ⟨22, 1, [], [.t 0, .t 1], q18, false⟩
theorem t18 : treeOf Tryd.prog Tryd.f18 (fun _ => 0) (fun _ => []) false [] 1 100000 q18 = some l18 := by kernel_rfl
/-! wherry/path.Domain -/
def q19 : LC := .op (.call false false 36 [(.t 0), (.c (.int .i64 255)), (.c (.fn 37 []))]) none <| .ret [(.t 0)]
def l19 : LF := ⟨5, 1, [], [.t 0], q19, false⟩
theorem t19 : treeOf Tryd.prog Tryd.f19 (fun _ => 0) (fun _ => []) false [] 1 100000 q19 = some l19 := by kernel_rfl
-- 20 strings.Join: told otherwise
/-! wherry/dots.Lines -/
def q21_0 : LC := .nx [(.t 0), (.t 1)]
def q21_1 : LC := .join [0, 3] (.block 1 (.op (.call false false 33 []) none <| .op (.call false false 41 [(.t 1), (.t 0)]) none <| .op (.ext (.t 0) 0) none <| .op (.ext (.t 1) 1) none <| .op (.ext (.t 2) 2) none <| .op (.un .not (.t 0)) none <| .cond (.t 0) (.ret [(.t 7)]) (.op (.call false false 42 [(.t 3)]) none <| .op (.lit false 1 1 [.sl .nil 0 0 []] [(0, 1, (.t 0))]) none <| .op (.app 1 24 (.t 9) (.t 0)) none <| .nx [(.t 5), (.t 0)]))) q21_0
def q21_2 : LC := .nx [(.t 0)]
def q21 : LC := .join [2] (.block 0 (.loop [(.t 0), (.c (.sl .nil 0 0 []))] q21_1)) q21_2
def l21 : LF := ⟨23, 1, [], [.t 0], q21, false⟩
theorem t21 : treeOf Tryd.prog Tryd.f21 (fun d => if d = 3 then 2 else if d = 17 then 2 else if d = 21 then 2 else 0) (fun d => if d = 0 then [0, 3] else []) false [] 1 100000 q21 = some l21 := by kernel_rfl
/-! strings.TrimPrefix -/
def q22 : LC := .op (.call false false 43 [(.t 0), (.t 1)]) none <| .ret [(.t 0)]
def l22 : LF := ⟨8, 2, [], [.t 0], q22, false⟩
theorem t22 : treeOf Tryd.prog Tryd.f22 (fun _ => 0) (fun _ => []) false [] 2 100000 q22 = some l22 := by kernel_rfl
/-! wherry/path.Parse -/
def q23 : LC := .op (.alloc [.bool false, .str [], .str []]) none <| .op (.bin .eql (.t 1) (.c (.str [60, 62]))) none <| .cond (.t 0) (.op (.build [.bool false, .str [], .str []] [(0, 1, (.c (.bool true)))]) none <| .op (.store 3 (.t 2) (.t 0)) none <| .ret [(.t 3), (.c (.int .i64 0))]) (.op (.call false false 44 [(.t 2), (.c (.str [60]))]) none <| .op (.ext (.t 0) 0) none <| .op (.ext (.t 1) 1) none <| .op (.call false false 45 [(.t 1), (.c (.str [62]))]) none <| .op (.ext (.t 0) 0) none <| .op (.ext (.t 1) 1) none <| .op (.call false false 46 [(.t 1), (.c (.str [64]))]) none <| .op (.ext (.t 0) 0) none <| .op (.ext (.t 1) 1) none <| .op (.ext (.t 2) 2) none <| .op (.build [.bool false, .str [], .str []] [(1, 1, (.t 2)), (2, 1, (.t 1))]) none <| .op (.alloc [.bool false, .str [], .str []]) none <| .op (.store 3 (.t 0) (.t 1)) none <| .op (.un .not (.t 10)) none <| .sel 2 (.t 0) false (.op (.un .not (.t 8)) none <| .nx [(.t 0)]) (.c (.bool true)) <| .sel 2 (.t 0) false (.op (.un .not (.t 5)) none <| .nx [(.t 0)]) (.c (.bool true)) <| .sel 3 (.t 0) false (.op (.load true 3 (.t 4)) none <| .op (.call false false 35 [(.t 0)]) none <| .op (.bin .neq (.t 0) (.c (.int .i64 0))) none <| .nx [(.t 0)]) (.c (.bool true)) <| .cond (.t 0) (.op (.build [.bool false, .str [], .str []] []) none <| .op (.store 3 (.t 19) (.t 0)) none <| .ret [(.t 20), (.c (.int .i64 5))]) (.op (.load true 3 (.t 5)) none <| .op (.store 3 (.t 19) (.t 0)) none <| .ret [(.t 20), (.c (.int .i64 0))]))
def l23 : LF := ⟨50, 1, [], [.cell 0 true 3, .t 1], q23, false⟩
theorem t23 : treeOf Tryd.prog Tryd.f23 (fun _ => 0) (fun _ => []) false [] 1 100000 q23 = some l23 := by kernel_rfl
/-! bytes.Equal -/
def q24 : LC := .op (.b2s (.t 0)) none <| .op (.b2s (.t 2)) none <| .op (.bin .eql (.t 1) (.t 0)) none <| .ret [(.t 0)]
def l24 : LF := ⟨10, 2, [], [.t 0], q24, false⟩
theorem t24 : treeOf Tryd.prog Tryd.f24 (fun _ => 0) (fun _ => []) false [] 2 100000 q24 = some l24 := by kernel_rfl
/-! wherry/wherryref11.begins -/
def q25 : LC := .op (.len true (.t 0)) none <| .op (.len true (.t 2)) none <| .op (.bin .lss (.t 1) (.t 0)) none <| .sel 7 (.t 0) false (.op (.len true (.t 4)) none <| .op (.cut 0 (.t 4) none (some (.t 0))) none <| .op (.call false false 47 [(.t 0)]) none <| .op (.bin .neq (.t 0) (.t 7)) none <| .nx [(.t 0)]) (.c (.bool true)) <| .cond (.t 0) (.ret [(.c (.str [])), (.c (.bool false))]) (.op (.len true (.t 5)) none <| .op (.cut 0 (.t 5) (some (.t 0)) none) none <| .ret [(.t 0), (.c (.bool true))])
def l25 : LF := ⟨24, 2, [], [.t 0, .t 1], q25, false⟩
theorem t25 : treeOf Tryd.prog Tryd.f25 (fun _ => 0) (fun _ => []) false [] 2 100000 q25 = some l25 := by kernel_rfl
/-! wherry/wherryref11.Parse -/
def q26_0 : LC := .op (.bin .add (.t 2) (.c (.int .i64 1))) none <| .nx [(.t 1), (.t 2), (.t 0)]
def q26_1 : LC := .op (.len true (.t 0)) none <| .op (.bin .lss (.t 3) (.t 0)) none <| .cond (.t 0) (.join [0, 2, 4] (.block 1 (.op (.idx (.t 2) (.t 4)) none <| .op (.bin .eql (.t 0) (.c (.int .u8 64))) none <| .cond (.t 0) (.op (.cut 0 (.t 4) none (some (.t 6))) none <| .op (.bin .add (.t 7) (.c (.int .i64 1))) none <| .op (.cut 0 (.t 6) (some (.t 0)) none) none <| .op (.build [.bool false, .str [], .str []] [(1, 1, (.t 2)), (2, 1, (.t 0))]) none <| .op (.alloc [.bool false, .str [], .str []]) none <| .op (.store 3 (.t 0) (.t 1)) none <| .op (.load true 3 (.t 1)) none <| .op (.load true 3 (.t 2)) none <| .op (.call false false 28 [(.t 0)]) none <| .op (.call false false 48 [(.t 2), (.t 0)]) none <| .op (.ext (.t 0) 0) none <| .op (.ext (.t 1) 1) none <| .op (.store 3 (.t 17) (.t 1)) none <| .ret [(.t 18), (.t 1)]) (.nx [(.t 4), (.t 5), (.t 6)]))) q26_0) (.exit 0 [(.t 3)])
def q26_2 : LC := .op (.build [.bool false, .str [], .str []] []) none <| .op (.store 3 (.t 1) (.t 0)) none <| .ret [(.t 2), (.c (.bool false))]
def q26 : LC := .op (.alloc [.bool false, .str [], .str []]) none <| .op (.bin .eql (.t 1) (.c (.str [60, 62]))) none <| .cond (.t 0) (.op (.build [.bool false, .str [], .str []] [(0, 1, (.c (.bool true)))]) none <| .op (.store 3 (.t 2) (.t 0)) none <| .ret [(.t 3), (.c (.bool true))]) (.op (.len true (.t 2)) none <| .op (.bin .lss (.t 0) (.c (.int .i64 2))) none <| .sel 3 (.t 0) false (.op (.idx (.t 4) (.c (.int .i64 0))) none <| .op (.bin .neq (.t 0) (.c (.int .u8 60))) none <| .nx [(.t 0)]) (.c (.bool true)) <| .sel 6 (.t 0) false (.op (.len true (.t 5)) none <| .op (.bin .sub (.t 0) (.c (.int .i64 1))) none <| .op (.idx (.t 7) (.t 0)) none <| .op (.bin .neq (.t 0) (.c (.int .u8 62))) none <| .nx [(.t 0)]) (.c (.bool true)) <| .cond (.t 0) (.op (.build [.bool false, .str [], .str []] []) none <| .op (.store 3 (.t 6) (.t 0)) none <| .ret [(.t 7), (.c (.bool false))]) (.op (.len true (.t 6)) none <| .op (.bin .sub (.t 0) (.c (.int .i64 1))) none <| .op (.cut 0 (.t 8) (some (.c (.int .i64 1))) (some (.t 0))) none <| .join [2] (.block 0 (.loop [(.t 0), (.t 8), (.c (.int .i64 0))] q26_1)) q26_2))
def l26 : LF := ⟨56, 1, [], [.cell 0 true 3, .t 1], q26, false⟩
theorem t26 : treeOf Tryd.prog Tryd.f26 (fun _ => 0) (fun d => if d = 0 then [0, 2, 4] else []) false [] 1 100000 q26 = some l26 := by kernel_rfl
/-! wherry/wherryref11.Domain -/
def q27_0 : LC := .op (.bin .add (.t 2) (.c (.int .i64 1))) none <| .nx [(.t 1), (.t 2), (.t 0)]
def q27_1 : LC := .op (.len true (.t 0)) none <| .op (.bin .leq (.t 3) (.t 0)) none <| .cond (.t 0) (.join [0, 3, 4] (.block 1 (.op (.len true (.t 2)) none <| .op (.bin .lss (.t 5) (.t 0)) none <| .sel 4 (.t 0) true (.op (.idx (.t 4) (.t 6)) none <| .op (.bin .neq (.t 0) (.c (.int .u8 46))) none <| .nx [(.t 0)]) (.c (.bool false)) <| .cond (.t 0) (.op (.idx (.t 5) (.t 7)) none <| .op (.call false false 50 [(.t 0)]) none <| .op (.un .not (.t 0)) none <| .sel 5 (.t 0) true (.op (.idx (.t 8) (.t 10)) none <| .op (.call false false 51 [(.t 0)]) none <| .op (.un .not (.t 0)) none <| .nx [(.t 0)]) (.c (.bool false)) <| .sel 4 (.t 0) true (.op (.idx (.t 9) (.t 11)) none <| .op (.bin .neq (.t 0) (.c (.int .u8 45))) none <| .nx [(.t 0)]) (.c (.bool false)) <| .cond (.t 0) (.ret [(.c (.bool false))]) (.exit 1 [(.t 10), (.t 11), (.t 12)])) (.op (.bin .sub (.t 7) (.t 6)) none <| .op (.call false false 49 [(.t 0), (.c (.int .i64 1)), (.c (.int .i64 63))]) none <| .op (.un .not (.t 0)) none <| .sel 4 (.t 0) false (.op (.idx (.t 8) (.t 9)) none <| .op (.bin .eql (.t 0) (.c (.int .u8 45))) none <| .nx [(.t 0)]) (.c (.bool true)) <| .sel 5 (.t 0) false (.op (.bin .sub (.t 11) (.c (.int .i64 1))) none <| .op (.idx (.t 10) (.t 0)) none <| .op (.bin .eql (.t 0) (.c (.int .u8 45))) none <| .nx [(.t 0)]) (.c (.bool true)) <| .cond (.t 0) (.ret [(.c (.bool false))]) (.op (.bin .add (.t 12) (.c (.int .i64 1))) none <| .nx [(.t 11), (.t 0), (.t 13)])))) q27_0) (.exit 0 [])
def q27_2 : LC := .ret [(.c (.bool true))]
def q27 : LC := .op (.len true (.t 0)) none <| .op (.call false false 49 [(.t 0), (.c (.int .i64 1)), (.c (.int .i64 255))]) none <| .op (.un .not (.t 0)) none <| .cond (.t 0) (.ret [(.c (.bool false))]) (.join [] (.block 0 (.loop [(.t 3), (.c (.int .i64 0)), (.c (.int .i64 0))] q27_1)) q27_2)
def l27 : LF := ⟨63, 1, [], [.t 0], q27, false⟩
theorem t27 : treeOf Tryd.prog Tryd.f27 (fun _ => 0) (fun d => if d = 0 then [0, 3, 4] else []) false [] 1 100000 q27 = some l27 := by kernel_rfl
/-! wherry/wherryref11.Path -/
def q28 : LC := .op (.box (.t 0)) none <| .op (.fad 0 (.t 0)) none <| .op (.load false 1 (.t 0)) none <| .cond (.t 0) (.op (.fad 1 (.t 2)) none <| .op (.load false 1 (.t 0)) none <| .op (.bin .eql (.t 0) (.c (.str []))) none <| .sel 3 (.t 0) true (.op (.fad 2 (.t 5)) none <| .op (.load false 1 (.t 0)) none <| .op (.bin .eql (.t 0) (.c (.str []))) none <| .nx [(.t 0)]) (.c (.bool false)) <| .ret [(.t 0)]) (.op (.fad 1 (.t 2)) none <| .op (.load false 1 (.t 0)) none <| .op (.call false false 52 [(.t 0)]) none <| .sel 3 (.t 0) true (.op (.fad 2 (.t 5)) none <| .op (.load false 1 (.t 0)) none <| .op (.call false false 27 [(.t 0)]) none <| .nx [(.t 0)]) (.c (.bool false)) <| .ret [(.t 0)])
def l28 : LF := ⟨21, 1, [], [.t 0], q28, false⟩
theorem t28 : treeOf Tryd.prog Tryd.f28 (fun _ => 0) (fun _ => []) false [] 1 100000 q28 = some l28 := by kernel_rfl
/-! wherry/wherryref11.Text -/
def q29 : LC := .op (.box (.t 0)) none <| .op (.fad 0 (.t 0)) none <| .op (.load false 1 (.t 0)) none <| .cond (.t 0) (.ret [(.c (.str [60, 62]))]) (.op (.fad 1 (.t 2)) none <| .op (.load false 1 (.t 0)) none <| .op (.bin .add (.c (.str [60])) (.t 0)) none <| .op (.bin .add (.t 0) (.c (.str [64]))) none <| .op (.fad 2 (.t 6)) none <| .op (.load false 1 (.t 0)) none <| .op (.bin .add (.t 2) (.t 0)) none <| .op (.bin .add (.t 0) (.c (.str [62]))) none <| .ret [(.t 0)])
def l29 : LF := ⟨13, 1, [], [.t 0], q29, false⟩
theorem t29 : treeOf Tryd.prog Tryd.f29 (fun _ => 0) (fun _ => []) false [] 1 100000 q29 = some l29 := by kernel_rfl
/-! wherry/wherryref11.end -/
def q30_0 : LC := .op (.bin .add (.t 1) (.c (.int .i64 1))) none <| .nx [(.t 1), (.t 0)]
def q30_1 : LC := .op (.bin .add (.t 1) (.c (.int .i64 1))) none <| .op (.len false (.t 1)) none <| .op (.bin .lss (.t 1) (.t 0)) none <| .cond (.t 0) (.join [0, 5] (.block 1 (.op (.iad 1 (.t 3) (.t 4)) none <| .op (.load false 1 (.t 0)) none <| .op (.bin .eql (.t 0) (.c (.int .u8 13))) none <| .sel 6 (.t 0) true (.op (.bin .add (.t 7) (.c (.int .i64 1))) none <| .op (.iad 1 (.t 7) (.t 0)) none <| .op (.load false 1 (.t 0)) none <| .op (.bin .eql (.t 0) (.c (.int .u8 10))) none <| .nx [(.t 0)]) (.c (.bool false)) <| .cond (.t 0) (.ret [(.t 8)]) (.nx [(.t 7), (.t 8)]))) q30_0) (.exit 0 [])
def q30_2 : LC := .ret [(.c (.int .i64 (-1)))]
def q30 : LC := .join [] (.block 0 (.loop [(.t 0), (.t 1)] q30_1)) q30_2
def l30 : LF := ⟨28, 2, [], [.t 0], q30, false⟩
theorem t30 : treeOf Tryd.prog Tryd.f30 (fun _ => 0) (fun d => if d = 0 then [0, 5] else []) false [] 2 100000 q30 = some l30 := by kernel_rfl
/-! wherry/head.name -/
def q31_0 : LC := .nx [(.t 0), (.t 1), (.t 2), (.t 3)]
def q31_1 : LC := .op (.bin .add (.t 3) (.c (.int .i64 1))) none <| .nx [(.t 1), (.t 2), (.t 3), (.t 0)]
def q31_2 : LC := .op (.bin .lss (.t 3) (.t 2)) none <| .cond (.t 0) (.join [0, 7, 8, 9] (.block 1 (.op (.iad 1 (.t 2) (.t 4)) none <| .op (.load false 1 (.t 0)) none <| .join [0, 7, 8, 9] (.block 2 (.op (.bin .eql (.t 0) (.c (.int .u8 58))) none <| .cond (.t 0) (.op (.cut 1 (.t 4) none (some (.t 7))) none <| .op (.b2s (.t 0)) none <| .op (.bin .add (.t 9) (.c (.int .i64 1))) none <| .op (.cut 1 (.t 7) (some (.t 0)) none) none <| .op (.b2s (.t 0)) none <| .op (.bin .gtr (.t 12) (.c (.int .i64 0))) none <| .ret [(.t 4), (.t 1), (.t 0)]) (.op (.bin .lss (.t 1) (.c (.int .u8 33))) none <| .sel 2 (.t 0) false (.op (.bin .gtr (.t 2) (.c (.int .u8 126))) none <| .nx [(.t 0)]) (.c (.bool true)) <| .cond (.t 0) (.ret [(.c (.str [])), (.c (.str [])), (.c (.bool false))]) (.nx [(.t 6), (.t 7), (.t 8), (.t 9)])))) q31_0)) q31_1) (.exit 0 [])
def q31_3 : LC := .ret [(.c (.str [])), (.c (.str [])), (.c (.bool false))]
def q31 : LC := .op (.len false (.t 0)) none <| .join [] (.block 0 (.loop [(.t 1), (.t 1), (.t 0), (.c (.int .i64 0))] q31_2)) q31_3
def l31 : LF := ⟨36, 1, [], [.t 0, .t 1, .t 2], q31, false⟩
theorem t31 : treeOf Tryd.prog Tryd.f31 (fun _ => 0) (fun d => if d = 0 then [0, 7, 8, 9] else []) false [] 1 100000 q31 = some l31 := by kernel_rfl
/-! bytes.HasSuffix -/
def q32 : LC := .op (.len false (.t 0)) none <| .op (.len false (.t 2)) none <| .op (.bin .geq (.t 1) (.t 0)) none <| .sel 9 (.t 0) true (.op (.len false (.t 3)) none <| .op (.len false (.t 5)) none <| .op (.bin .sub (.t 1) (.t 0)) none <| .op (.cut 1 (.t 6) (some (.t 0)) none) none <| .op (.call false false 24 [(.t 0), (.t 8)]) none <| .nx [(.t 0)]) (.c (.bool false)) <| .ret [(.t 0)]
def l32 : LF := ⟨21, 2, [], [.t 0], q32, false⟩
theorem t32 : treeOf Tryd.prog Tryd.f32 (fun _ => 0) (fun _ => []) false [] 2 100000 q32 = some l32 := by kernel_rfl
/-! wherry/dots.end -/
def q33 : LC := .op (.lit false 1 2 [.int .u8 0, .int .u8 0] [(0, 1, (.c (.int .u8 13))), (1, 1, (.c (.int .u8 10)))]) none <| .ret [(.t 0)]
def l33 : LF := ⟨2, 0, [], [.t 0], q33, false⟩
theorem t33 : treeOf Tryd.prog Tryd.f33 (fun _ => 0) (fun _ => []) false [] 0 100000 q33 = some l33 := by kernel_rfl
-- 34 bytes.IndexByte: told otherwise
/-! wherry/path.Check -/
def q35 : LC := .op (.box (.t 0)) none <| .op (.fad 0 (.t 0)) none <| .op (.load false 1 (.t 0)) none <| .sel 6 (.t 0) true (.op (.fad 1 (.t 2)) none <| .op (.load false 1 (.t 0)) none <| .op (.fad 2 (.t 4)) none <| .op (.load false 1 (.t 0)) none <| .op (.bin .add (.t 2) (.t 0)) none <| .op (.bin .eql (.t 0) (.c (.str []))) none <| .nx [(.t 0)]) (.c (.bool false)) <| .sel 13 (.t 0) false (.op (.fad 0 (.t 3)) none <| .op (.load false 1 (.t 0)) none <| .op (.un .not (.t 0)) none <| .sel 3 (.t 0) true (.op (.fad 1 (.t 6)) none <| .op (.load false 1 (.t 0)) none <| .op (.call false false 36 [(.t 0), (.c (.int .i64 64)), (.c (.fn 54 []))]) none <| .nx [(.t 0)]) (.c (.bool false)) <| .sel 3 (.t 0) true (.op (.fad 2 (.t 7)) none <| .op (.load false 1 (.t 0)) none <| .op (.call false false 19 [(.t 0)]) none <| .nx [(.t 0)]) (.c (.bool false)) <| .nx [(.t 0)]) (.c (.bool true)) <| .cond (.t 0) (.ret [(.c (.int .i64 0))]) (.ret [(.c (.int .i64 5))])
def l35 : LF := ⟨28, 1, [], [.t 0], q35, false⟩
theorem t35 : treeOf Tryd.prog Tryd.f35 (fun _ => 0) (fun _ => []) false [] 1 100000 q35 = some l35 := by kernel_rfl
/-! wherry/path.parts -/
def q36 : LC := .op (.box (.t 2)) none <| .op (.len true (.t 1)) none <| .op (.bin .leq (.t 0) (.t 3)) none <| .sel 5 (.t 0) true (.op (.call false false 56 [(.t 3), (.c (.str [46]))]) none <| .op (.clo 57 [(.t 3)]) none <| .op (.call true false 55 [(.t 1), (.t 0)]) none <| .op (.un .not (.t 0)) none <| .nx [(.t 0)]) (.c (.bool false)) <| .ret [(.t 0)]
def l36 : LF := ⟨18, 3, [], [.t 0], q36, false⟩
theorem t36 : treeOf Tryd.prog Tryd.f36 (fun d => if d = 15 then 3 else 0) (fun _ => []) false [] 3 100000 q36 = some l36 := by kernel_rfl
/-! wherry/path.label -/
def q37_0 : LC := .op (.bin .add (.t 2) (.c (.int .i64 1))) none <| .nx [(.t 1), (.t 2), (.t 0)]
def q37_1 : LC := .op (.bin .lss (.t 2) (.t 1)) none <| .cond (.t 0) (.join [0, 5, 6] (.block 1 (.op (.idx (.t 1) (.t 3)) none <| .op (.call false false 58 [(.t 0)]) none <| .op (.un .not (.t 0)) none <| .sel 4 (.t 0) true (.op (.idx (.t 4) (.t 6)) none <| .op (.bin .neq (.t 0) (.c (.int .u8 45))) none <| .nx [(.t 0)]) (.c (.bool false)) <| .cond (.t 0) (.ret [(.c (.bool false))]) (.nx [(.t 5), (.t 6), (.t 7)]))) q37_0) (.exit 0 [(.t 1)])
def q37_2 : LC := .op (.bin .neq (.t 0) (.c (.str []))) none <| .sel 3 (.t 0) true (.op (.len true (.t 1)) none <| .op (.bin .leq (.t 0) (.c (.int .i64 63))) none <| .nx [(.t 0)]) (.c (.bool false)) <| .sel 3 (.t 0) true (.op (.idx (.t 2) (.c (.int .i64 0))) none <| .op (.bin .neq (.t 0) (.c (.int .u8 45))) none <| .nx [(.t 0)]) (.c (.bool false)) <| .sel 6 (.t 0) true (.op (.len true (.t 3)) none <| .op (.bin .sub (.t 0) (.c (.int .i64 1))) none <| .op (.idx (.t 5) (.t 0)) none <| .op (.bin .neq (.t 0) (.c (.int .u8 45))) none <| .nx [(.t 0)]) (.c (.bool false)) <| .ret [(.t 0)]
def q37 : LC := .op (.len true (.t 0)) none <| .join [0] (.block 0 (.loop [(.t 1), (.t 0), (.c (.int .i64 0))] q37_1)) q37_2
def l37 : LF := ⟨41, 1, [], [.t 0], q37, false⟩
theorem t37 : treeOf Tryd.prog Tryd.f37 (fun _ => 0) (fun d => if d = 0 then [0, 5, 6] else []) false [] 1 100000 q37 = some l37 := by kernel_rfl
/-! bytes.Cut -/
def q41 : LC := .op (.call false false 61 [(.t 0), (.t 1)]) none <| .op (.bin .geq (.t 0) (.c (.int .i64 0))) none <| .cond (.t 0) (.op (.cut 1 (.t 2) none (some (.t 1))) none <| .op (.len false (.t 4)) none <| .op (.bin .add (.t 3) (.t 0)) none <| .op (.cut 1 (.t 5) (some (.t 0)) none) none <| .ret [(.t 3), (.t 0), (.c (.bool true))]) (.ret [(.t 2), (.c (.sl .nil 0 0 [])), (.c (.bool false))])
def l41 : LF := ⟨23, 2, [], [.t 0, .t 1, .t 2], q41, false⟩
theorem t41 : treeOf Tryd.prog Tryd.f41 (fun _ => 0) (fun _ => []) false [] 2 100000 q41 = some l41 := by kernel_rfl
-- 42 bytes.Clone: told otherwise
/-! internal/stringslite.TrimPrefix -/
def q43 : LC := .op (.call false false 62 [(.t 0), (.t 1)]) none <| .cond (.t 0) (.op (.len true (.t 2)) none <| .op (.cut 0 (.t 2) (some (.t 0)) none) none <| .ret [(.t 0)]) (.ret [(.t 1)])
def l43 : LF := ⟨13, 2, [], [.t 0], q43, false⟩
theorem t43 : treeOf Tryd.prog Tryd.f43 (fun _ => 0) (fun _ => []) false [] 2 100000 q43 = some l43 := by kernel_rfl
/-! strings.CutPrefix -/
def q44 : LC := .op (.call false false 63 [(.t 0), (.t 1)]) none <| .op (.ext (.t 0) 0) none <| .op (.ext (.t 1) 1) none <| .ret [(.t 1), (.t 0)]
def l44 : LF := ⟨11, 2, [], [.t 0, .t 1], q44, false⟩
theorem t44 : treeOf Tryd.prog Tryd.f44 (fun _ => 0) (fun _ => []) false [] 2 100000 q44 = some l44 := by kernel_rfl
/-! strings.CutSuffix -/
def q45 : LC := .op (.call false false 64 [(.t 0), (.t 1)]) none <| .op (.ext (.t 0) 0) none <| .op (.ext (.t 1) 1) none <| .ret [(.t 1), (.t 0)]
def l45 : LF := ⟨11, 2, [], [.t 0, .t 1], q45, false⟩
theorem t45 : treeOf Tryd.prog Tryd.f45 (fun _ => 0) (fun _ => []) false [] 2 100000 q45 = some l45 := by kernel_rfl
/-! strings.Cut -/
def q46 : LC := .op (.call false false 65 [(.t 0), (.t 1)]) none <| .op (.ext (.t 0) 0) none <| .op (.ext (.t 1) 1) none <| .op (.ext (.t 2) 2) none <| .ret [(.t 2), (.t 1), (.t 0)]
def l46 : LF := ⟨13, 2, [], [.t 0, .t 1, .t 2], q46, false⟩
theorem t46 : treeOf Tryd.prog Tryd.f46 (fun _ => 0) (fun _ => []) false [] 2 100000 q46 = some l46 := by kernel_rfl
/-! wherry/wherryref11.Fold -/
def q47_0 : LC := .op (.lit false 1 1 [.int .u8 0] [(0, 1, (.t 3))]) none <| .op (.app 1 1 (.t 2) (.t 0)) none <| .nx [(.t 2), (.t 0), (.t 4)]
def q47_1 : LC := .op (.bin .add (.t 2) (.c (.int .i64 1))) none <| .nx [(.t 1), (.t 2), (.t 0)]
def q47_2 : LC := .op (.len true (.t 0)) none <| .op (.bin .lss (.t 3) (.t 0)) none <| .cond (.t 0) (.join [0, 3, 4] (.block 1 (.op (.idx (.t 2) (.t 4)) none <| .op (.bin .geq (.t 0) (.c (.int .u8 65))) none <| .sel 2 (.t 0) true (.op (.bin .leq (.t 1) (.c (.int .u8 90))) none <| .nx [(.t 0)]) (.c (.bool false)) <| .join [0, 3, 4, 5] (.cond (.t 0) (.op (.bin .add (.t 2) (.c (.int .u8 32))) none <| .nx [(.t 6), (.t 7), (.t 8), (.t 0)]) (.nx [(.t 5), (.t 6), (.t 7), (.t 2)])) q47_0)) q47_1) (.exit 0 [(.t 3)])
def q47_3 : LC := .op (.b2s (.t 0)) none <| .ret [(.t 0)]
def q47 : LC := .join [3] (.block 0 (.loop [(.t 0), (.c (.sl .nil 0 0 [])), (.c (.int .i64 0))] q47_2)) q47_3
def l47 : LF := ⟨29, 1, [], [.t 0], q47, false⟩
theorem t47 : treeOf Tryd.prog Tryd.f47 (fun d => if d = 3 then 2 else if d = 23 then 2 else if d = 26 then 2 else 0) (fun d => if d = 0 then [0, 3, 4] else []) false [] 1 100000 q47 = some l47 := by kernel_rfl
/-! wherry/wherryref11.keep -/
def q48 : LC := .op (.box (.t 0)) none <| .op (.alloc [.bool false, .str [], .str []]) none <| .op (.un .not (.t 3)) none <| .cond (.t 0) (.op (.build [.bool false, .str [], .str []] []) none <| .op (.store 3 (.t 2) (.t 0)) none <| .ret [(.t 3), (.c (.bool false))]) (.op (.load true 3 (.t 2)) none <| .op (.store 3 (.t 2) (.t 0)) none <| .ret [(.t 3), (.c (.bool true))])
def l48 : LF := ⟨10, 2, [], [.cell 0 true 3, .t 1], q48, false⟩
theorem t48 : treeOf Tryd.prog Tryd.f48 (fun _ => 0) (fun _ => []) false [] 2 100000 q48 = some l48 := by kernel_rfl
/-! wherry/wherryref11.in -/
def q49 : LC := .op (.bin .geq (.t 0) (.t 1)) none <| .sel 3 (.t 0) true (.op (.bin .leq (.t 1) (.t 3)) none <| .nx [(.t 0)]) (.c (.bool false)) <| .ret [(.t 0)]
def l49 : LF := ⟨15, 3, [], [.t 0], q49, false⟩
theorem t49 : treeOf Tryd.prog Tryd.f49 (fun _ => 0) (fun _ => []) false [] 3 100000 q49 = some l49 := by kernel_rfl
/-! wherry/wherryref11.letter -/
def q50 : LC := .op (.bin .geq (.t 0) (.c (.int .u8 97))) none <| .sel 2 (.t 0) true (.op (.bin .leq (.t 1) (.c (.int .u8 122))) none <| .nx [(.t 0)]) (.c (.bool false)) <| .sel 6 (.t 0) false (.op (.bin .geq (.t 2) (.c (.int .u8 65))) none <| .sel 2 (.t 0) true (.op (.bin .leq (.t 3) (.c (.int .u8 90))) none <| .nx [(.t 0)]) (.c (.bool false)) <| .nx [(.t 0)]) (.c (.bool true)) <| .ret [(.t 0)]
def l50 : LF := ⟨17, 1, [], [.t 0], q50, false⟩
theorem t50 : treeOf Tryd.prog Tryd.f50 (fun _ => 0) (fun _ => []) false [] 1 100000 q50 = some l50 := by kernel_rfl
/-! wherry/wherryref11.digit -/
def q51 : LC := .op (.bin .geq (.t 0) (.c (.int .u8 48))) none <| .sel 2 (.t 0) true (.op (.bin .leq (.t 1) (.c (.int .u8 57))) none <| .nx [(.t 0)]) (.c (.bool false)) <| .ret [(.t 0)]
def l51 : LF := ⟨9, 1, [], [.t 0], q51, false⟩
theorem t51 : treeOf Tryd.prog Tryd.f51 (fun _ => 0) (fun _ => []) false [] 1 100000 q51 = some l51 := by kernel_rfl
/-! wherry/wherryref11.Local -/
def q52_0 : LC := .op (.bin .add (.t 1) (.c (.int .i64 1))) none <| .nx [(.t 1), (.t 0)]
def q52_1 : LC := .op (.len true (.t 0)) none <| .op (.bin .lss (.t 2) (.t 0)) none <| .cond (.t 0) (.join [0, 3] (.block 1 (.op (.idx (.t 2) (.t 3)) none <| .op (.bin .eql (.t 0) (.c (.int .u8 46))) none <| .sel 5 (.t 0) true (.op (.bin .sub (.t 5) (.c (.int .i64 1))) none <| .op (.idx (.t 5) (.t 0)) none <| .op (.bin .eql (.t 0) (.c (.int .u8 46))) none <| .nx [(.t 0)]) (.c (.bool false)) <| .sel 11 (.t 0) false (.op (.idx (.t 5) (.t 6)) none <| .op (.bin .neq (.t 0) (.c (.int .u8 46))) none <| .sel 5 (.t 0) true (.op (.idx (.t 7) (.t 8)) none <| .op (.call false false 66 [(.t 0)]) none <| .op (.un .not (.t 0)) none <| .nx [(.t 0)]) (.c (.bool false)) <| .nx [(.t 0)]) (.c (.bool true)) <| .cond (.t 0) (.ret [(.c (.bool false))]) (.nx [(.t 6), (.t 7)]))) q52_0) (.exit 0 [])
def q52_2 : LC := .ret [(.c (.bool true))]
def q52 : LC := .op (.len true (.t 0)) none <| .op (.call false false 49 [(.t 0), (.c (.int .i64 1)), (.c (.int .i64 64))]) none <| .op (.un .not (.t 0)) none <| .sel 3 (.t 0) false (.op (.idx (.t 3) (.c (.int .i64 0))) none <| .op (.bin .eql (.t 0) (.c (.int .u8 46))) none <| .nx [(.t 0)]) (.c (.bool true)) <| .sel 6 (.t 0) false (.op (.len true (.t 4)) none <| .op (.bin .sub (.t 0) (.c (.int .i64 1))) none <| .op (.idx (.t 6) (.t 0)) none <| .op (.bin .eql (.t 0) (.c (.int .u8 46))) none <| .nx [(.t 0)]) (.c (.bool true)) <| .cond (.t 0) (.ret [(.c (.bool false))]) (.join [] (.block 0 (.loop [(.t 5), (.c (.int .i64 0))] q52_1)) q52_2)
def l52 : LF := ⟨51, 1, [], [.t 0], q52, false⟩
theorem t52 : treeOf Tryd.prog Tryd.f52 (fun _ => 0) (fun d => if d = 0 then [0, 3] else []) false [] 1 100000 q52 = some l52 := by kernel_rfl
/-! wherry/path.atom -/
def q54_0 : LC := .op (.bin .add (.t 2) (.c (.int .i64 1))) none <| .nx [(.t 1), (.t 2), (.t 0)]
def q54_1 : LC := .op (.bin .lss (.t 2) (.t 1)) none <| .cond (.t 0) (.join [0, 5, 6] (.block 1 (.op (.idx (.t 1) (.t 3)) none <| .op (.call false false 58 [(.t 0)]) none <| .op (.un .not (.t 0)) none <| .sel 5 (.t 0) true (.op (.idx (.t 4) (.t 6)) none <| .op (.call false false 67 [(.c (.str [33, 35, 36, 37, 38, 39, 42, 43, 45, 47, 61, 63, 94, 95, 96, 123, 124, 125, 126])), (.t 0)]) none <| .op (.bin .lss (.t 0) (.c (.int .i64 0))) none <| .nx [(.t 0)]) (.c (.bool false)) <| .cond (.t 0) (.ret [(.c (.bool false))]) (.nx [(.t 5), (.t 6), (.t 7)]))) q54_0) (.exit 0 [(.t 1)])
def q54_2 : LC := .op (.bin .neq (.t 0) (.c (.str []))) none <| .ret [(.t 0)]
def q54 : LC := .op (.len true (.t 0)) none <| .join [0] (.block 0 (.loop [(.t 1), (.t 0), (.c (.int .i64 0))] q54_1)) q54_2
def l54 : LF := ⟨24, 1, [], [.t 0], q54, false⟩
theorem t54 : treeOf Tryd.prog Tryd.f54 (fun _ => 0) (fun d => if d = 0 then [0, 5, 6] else []) false [] 1 100000 q54 = some l54 := by kernel_rfl
/-! slices.ContainsFunc[[]string,string] -/
def q55 : LC := .op (.call true false 68 [(.t 0), (.t 1)]) none <| .op (.bin .geq (.t 0) (.c (.int .i64 0))) none <| .ret [(.t 0)]
def l55 : LF := ⟨9, 2, [], [.t 0], q55, false⟩
theorem t55 : treeOf Tryd.prog Tryd.f55 (fun d => if d = 7 then 3 else 0) (fun _ => []) false [] 2 100000 q55 = some l55 := by kernel_rfl
-- 56 strings.Split: told otherwise
/-! wherry/path.parts$1 -/
def q57 : LC := .op (.load false 1 (.t 1)) none <| .op (.callv (.t 0) [(.t 1)]) none <| .op (.un .not (.t 0)) none <| .ret [(.t 0)]
def l57 : LF := ⟨8, 2, [], [.t 0], q57, false⟩
theorem t57 : treeOf Tryd.prog Tryd.f57 (fun _ => 0) (fun _ => []) false [] 2 100000 q57 = some l57 := by kernel_rfl
/-! wherry/path.plain -/
def q58 : LC := .op (.bin .geq (.t 0) (.c (.int .u8 97))) none <| .sel 2 (.t 0) true (.op (.bin .leq (.t 1) (.c (.int .u8 122))) none <| .nx [(.t 0)]) (.c (.bool false)) <| .sel 6 (.t 0) false (.op (.bin .geq (.t 2) (.c (.int .u8 65))) none <| .sel 2 (.t 0) true (.op (.bin .leq (.t 3) (.c (.int .u8 90))) none <| .nx [(.t 0)]) (.c (.bool false)) <| .nx [(.t 0)]) (.c (.bool true)) <| .sel 6 (.t 0) false (.op (.bin .geq (.t 3) (.c (.int .u8 48))) none <| .sel 2 (.t 0) true (.op (.bin .leq (.t 4) (.c (.int .u8 57))) none <| .nx [(.t 0)]) (.c (.bool false)) <| .nx [(.t 0)]) (.c (.bool true)) <| .ret [(.t 0)]
def l58 : LF := ⟨25, 1, [], [.t 0], q58, false⟩
theorem t58 : treeOf Tryd.prog Tryd.f58 (fun _ => 0) (fun _ => []) false [] 1 100000 q58 = some l58 := by kernel_rfl
-- 61 bytes.Index: told otherwise
/-! internal/stringslite.HasPrefix -/
def q62 : LC := .op (.len true (.t 0)) none <| .op (.len true (.t 2)) none <| .op (.bin .geq (.t 1) (.t 0)) none <| .sel 6 (.t 0) true (.op (.len true (.t 4)) none <| .op (.cut 0 (.t 4) none (some (.t 0))) none <| .op (.bin .eql (.t 0) (.t 6)) none <| .nx [(.t 0)]) (.c (.bool false)) <| .ret [(.t 0)]
def l62 : LF := ⟨18, 2, [], [.t 0], q62, false⟩
theorem t62 : treeOf Tryd.prog Tryd.f62 (fun _ => 0) (fun _ => []) false [] 2 100000 q62 = some l62 := by kernel_rfl
/-! internal/stringslite.CutPrefix -/
def q63 : LC := .op (.call false false 62 [(.t 0), (.t 1)]) none <| .op (.un .not (.t 0)) none <| .cond (.t 0) (.ret [(.t 2), (.c (.bool false))]) (.op (.len true (.t 3)) none <| .op (.cut 0 (.t 3) (some (.t 0)) none) none <| .ret [(.t 0), (.c (.bool true))])
def l63 : LF := ⟨15, 2, [], [.t 0, .t 1], q63, false⟩
theorem t63 : treeOf Tryd.prog Tryd.f63 (fun _ => 0) (fun _ => []) false [] 2 100000 q63 = some l63 := by kernel_rfl
/-! internal/stringslite.CutSuffix -/
def q64 : LC := .op (.call false false 75 [(.t 0), (.t 1)]) none <| .op (.un .not (.t 0)) none <| .cond (.t 0) (.ret [(.t 2), (.c (.bool false))]) (.op (.len true (.t 2)) none <| .op (.len true (.t 4)) none <| .op (.bin .sub (.t 1) (.t 0)) none <| .op (.cut 0 (.t 5) none (some (.t 0))) none <| .ret [(.t 0), (.c (.bool true))])
def l64 : LF := ⟨18, 2, [], [.t 0, .t 1], q64, false⟩
theorem t64 : treeOf Tryd.prog Tryd.f64 (fun _ => 0) (fun _ => []) false [] 2 100000 q64 = some l64 := by kernel_rfl
/-! internal/stringslite.Cut -/
def q65 : LC := .op (.call false false 76 [(.t 0), (.t 1)]) none <| .op (.bin .geq (.t 0) (.c (.int .i64 0))) none <| .cond (.t 0) (.op (.cut 0 (.t 2) none (some (.t 1))) none <| .op (.len true (.t 4)) none <| .op (.bin .add (.t 3) (.t 0)) none <| .op (.cut 0 (.t 5) (some (.t 0)) none) none <| .ret [(.t 3), (.t 0), (.c (.bool true))]) (.ret [(.t 2), (.c (.str [])), (.c (.bool false))])
def l65 : LF := ⟨23, 2, [], [.t 0, .t 1, .t 2], q65, false⟩
theorem t65 : treeOf Tryd.prog Tryd.f65 (fun _ => 0) (fun _ => []) false [] 2 100000 q65 = some l65 := by kernel_rfl
/-! wherry/wherryref11.sign -/
def q66_0 : LC := .op (.bin .add (.t 2) (.c (.int .i64 1))) none <| .nx [(.t 1), (.t 2), (.t 0)]
def q66_1 : LC := .op (.len true (.t 1)) none <| .op (.bin .lss (.t 3) (.t 0)) none <| .cond (.t 0) (.join [0, 3, 4] (.block 1 (.op (.idx (.t 3) (.t 4)) none <| .op (.bin .eql (.t 0) (.t 3)) none <| .cond (.t 0) (.ret [(.c (.bool true))]) (.nx [(.t 4), (.t 5), (.t 6)]))) q66_0) (.exit 0 [(.t 2)])
def q66_2 : LC := .op (.bin .eql (.t 0) (.c (.int .u8 96))) none <| .ret [(.t 0)]
def q66 : LC := .op (.call false false 50 [(.t 0)]) none <| .sel 2 (.t 0) false (.op (.call false false 51 [(.t 1)]) none <| .nx [(.t 0)]) (.c (.bool true)) <| .cond (.t 0) (.ret [(.c (.bool true))]) (.join [0] (.block 0 (.loop [(.t 2), (.c (.str [33, 35, 36, 37, 38, 39, 42, 43, 45, 47, 61, 63, 94, 95, 123, 124, 125, 126])), (.c (.int .i64 0))] q66_1)) q66_2)
def l66 : LF := ⟨24, 1, [], [.t 0], q66, false⟩
theorem t66 : treeOf Tryd.prog Tryd.f66 (fun _ => 0) (fun d => if d = 0 then [0, 3, 4] else []) false [] 1 100000 q66 = some l66 := by kernel_rfl
-- 67 strings.IndexByte: told otherwise
/-! slices.IndexFunc[[]string,string] -/
def q68_0 : LC := .op (.bin .add (.t 3) (.c (.int .i64 1))) none <| .nx [(.t 1), (.t 2), (.t 3), (.t 0)]
def q68_1 : LC := .op (.bin .lss (.t 3) (.t 2)) none <| .cond (.t 0) (.join [0, 1, 7, 8] (.block 1 (.op (.iad 1 (.t 1) (.t 4)) none <| .op (.load false 1 (.t 0)) none <| .op (.callv (.t 4) [(.t 0)]) none <| .cond (.t 0) (.ret [(.t 7)]) (.nx [(.t 4), (.t 5), (.t 6), (.t 7)]))) q68_0) (.exit 0 [])
def q68_2 : LC := .ret [(.c (.int .i64 (-1)))]
def q68 : LC := .op (.len false (.t 0)) none <| .join [] (.block 0 (.loop [(.t 1), (.t 2), (.t 0), (.c (.int .i64 0))] q68_1)) q68_2
def l68 : LF := ⟨19, 2, [], [.t 0], q68, false⟩
theorem t68 : treeOf Tryd.prog Tryd.f68 (fun _ => 0) (fun d => if d = 0 then [0, 1, 7, 8] else []) false [] 2 100000 q68 = some l68 := by kernel_rfl
/-! internal/stringslite.HasSuffix -/
def q75 : LC := .op (.len true (.t 0)) none <| .op (.len true (.t 2)) none <| .op (.bin .geq (.t 1) (.t 0)) none <| .sel 9 (.t 0) true (.op (.len true (.t 3)) none <| .op (.len true (.t 5)) none <| .op (.bin .sub (.t 1) (.t 0)) none <| .op (.cut 0 (.t 6) (some (.t 0)) none) none <| .op (.bin .eql (.t 0) (.t 8)) none <| .nx [(.t 0)]) (.c (.bool false)) <| .ret [(.t 0)]
def l75 : LF := ⟨21, 2, [], [.t 0], q75, false⟩
theorem t75 : treeOf Tryd.prog Tryd.f75 (fun _ => 0) (fun _ => []) false [] 2 100000 q75 = some l75 := by kernel_rfl
-- 76 internal/stringslite.Index: told otherwise
def lt : Nat → Option LF
  | 3 => some l3
  | 4 => some l4
  | 5 => some l5
  | 6 => some l6
  | 7 => some l7
  | 8 => some l8
  | 9 => some l9
  | 10 => some l10
  | 11 => some l11
  | 12 => some l12
  | 13 => some l13
  | 14 => some l14
  | 15 => some l15
  | 16 => some l16
  | 17 => some l17
  | 18 => some l18
  | 19 => some l19
  | 21 => some l21
  | 22 => some l22
  | 23 => some l23
  | 24 => some l24
  | 25 => some l25
  | 26 => some l26
  | 27 => some l27
  | 28 => some l28
  | 29 => some l29
  | 30 => some l30
  | 31 => some l31
  | 32 => some l32
  | 33 => some l33
  | 35 => some l35
  | 36 => some l36
  | 37 => some l37
  | 41 => some l41
  | 43 => some l43
  | 44 => some l44
  | 45 => some l45
  | 46 => some l46
  | 47 => some l47
  | 48 => some l48
  | 49 => some l49
  | 50 => some l50
  | 51 => some l51
  | 52 => some l52
  | 54 => some l54
  | 55 => some l55
  | 57 => some l57
  | 58 => some l58
  | 62 => some l62
  | 63 => some l63
  | 64 => some l64
  | 65 => some l65
  | 66 => some l66
  | 68 => some l68
  | 75 => some l75
  | _ => none
theorem lt_ok : TreeOk Tryd.prog lt := by
  intro f F h
  unfold lt at h
  split at h
  · cases h; exact told_of t3 Tryd.func3 (by kernel_rfl)
  · cases h; exact told_of t4 Tryd.func4 (by kernel_rfl)
  · cases h; exact told_of t5 Tryd.func5 (by kernel_rfl)
  · cases h; exact told_of t6 Tryd.func6 (by kernel_rfl)
  · cases h; exact told_of t7 Tryd.func7 (by kernel_rfl)
  · cases h; exact told_of t8 Tryd.func8 (by kernel_rfl)
  · cases h; exact told_of t9 Tryd.func9 (by kernel_rfl)
  · cases h; exact told_of t10 Tryd.func10 (by kernel_rfl)
  · cases h; exact told_of t11 Tryd.func11 (by kernel_rfl)
  · cases h; exact told_of t12 Tryd.func12 (by kernel_rfl)
  · cases h; exact told_of t13 Tryd.func13 (by kernel_rfl)
  · cases h; exact told_of t14 Tryd.func14 (by kernel_rfl)
  · cases h; exact told_of t15 Tryd.func15 (by kernel_rfl)
  · cases h; exact told_of t16 Tryd.func16 (by kernel_rfl)
  · cases h; exact told_of t17 Tryd.func17 (by kernel_rfl)
  · cases h; exact told_of t18 Tryd.func18 (by kernel_rfl)
  · cases h; exact told_of t19 Tryd.func19 (by kernel_rfl)
  · cases h; exact told_of t21 Tryd.func21 (by kernel_rfl)
  · cases h; exact told_of t22 Tryd.func22 (by kernel_rfl)
  · cases h; exact told_of t23 Tryd.func23 (by kernel_rfl)
  · cases h; exact told_of t24 Tryd.func24 (by kernel_rfl)
  · cases h; exact told_of t25 Tryd.func25 (by kernel_rfl)
  · cases h; exact told_of t26 Tryd.func26 (by kernel_rfl)
  · cases h; exact told_of t27 Tryd.func27 (by kernel_rfl)
  · cases h; exact told_of t28 Tryd.func28 (by kernel_rfl)
  · cases h; exact told_of t29 Tryd.func29 (by kernel_rfl)
  · cases h; exact told_of t30 Tryd.func30 (by kernel_rfl)
  · cases h; exact told_of t31 Tryd.func31 (by kernel_rfl)
  · cases h; exact told_of t32 Tryd.func32 (by kernel_rfl)
  · cases h; exact told_of t33 Tryd.func33 (by kernel_rfl)
  · cases h; exact told_of t35 Tryd.func35 (by kernel_rfl)
  · cases h; exact told_of t36 Tryd.func36 (by kernel_rfl)
  · cases h; exact told_of t37 Tryd.func37 (by kernel_rfl)
  · cases h; exact told_of t41 Tryd.func41 (by kernel_rfl)
  · cases h; exact told_of t43 Tryd.func43 (by kernel_rfl)
  · cases h; exact told_of t44 Tryd.func44 (by kernel_rfl)
  · cases h; exact told_of t45 Tryd.func45 (by kernel_rfl)
  · cases h; exact told_of t46 Tryd.func46 (by kernel_rfl)
  · cases h; exact told_of t47 Tryd.func47 (by kernel_rfl)
  · cases h; exact told_of t48 Tryd.func48 (by kernel_rfl)
  · cases h; exact told_of t49 Tryd.func49 (by kernel_rfl)
  · cases h; exact told_of t50 Tryd.func50 (by kernel_rfl)
  · cases h; exact told_of t51 Tryd.func51 (by kernel_rfl)
  · cases h; exact told_of t52 Tryd.func52 (by kernel_rfl)
  · cases h; exact told_of t54 Tryd.func54 (by kernel_rfl)
  · cases h; exact told_of t55 Tryd.func55 (by kernel_rfl)
  · cases h; exact told_of t57 Tryd.func57 (by kernel_rfl)
  · cases h; exact told_of t58 Tryd.func58 (by kernel_rfl)
  · cases h; exact told_of t62 Tryd.func62 (by kernel_rfl)
  · cases h; exact told_of t63 Tryd.func63 (by kernel_rfl)
  · cases h; exact told_of t64 Tryd.func64 (by kernel_rfl)
  · cases h; exact told_of t65 Tryd.func65 (by kernel_rfl)
  · cases h; exact told_of t66 Tryd.func66 (by kernel_rfl)
  · cases h; exact told_of t68 Tryd.func68 (by kernel_rfl)
  · cases h; exact told_of t75 Tryd.func75 (by kernel_rfl)
  · cases h
end Go.Proofs.YtghnffhgmhfofaaDoor.Tab
