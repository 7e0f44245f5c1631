/- The functions that these laws reach, as trees: printed by this session's own program. -/
import Derived.Test.YtmajbgmjlggcbaaDoorEv26
import Derived.Test.YtmajbgmjlggcbaaDoorProg
import Derived.KernelRfl
namespace Go.Proofs.YtmajbgmjlggcbaaDoor.Tab
set_option linter.all false
open Go Go.Proofs.YtmajbgmjlggcbaaDoor.Ev
-- LAW wherry/wherrylaw13.AnswerExact 3 [24, 25, 3] [4]
-- LAW wherry/wherrylaw13.AnswerBack 4 [42, 3] [4]
-- LAW wherry/wherrylaw13.AnswerReads 5 [25] [4]
-- LAW wherry/wherrylaw13.AnswerEnds 6 [3, 3, 3] [4]
-- LAW wherry/wherrylaw13.AnswerMixed 7 [3, 3] [4]
/-! wherry/wherrylaw13.AnswerExact -/
def q3 : LC := .op (.boxc (.t 0)) none <| .op (.load true 2 (.t 0)) none <| .op (.call false false 8 [(.t 0)]) none <| .sel 3 (.t 0) false (.op (.len false (.t 4)) none <| .op (.bin .gtr (.t 0) (.c (.int .i64 3000))) none <| .nx [(.t 0)]) (.c (.bool true)) <| .cond (.t 0) (.ret [(.c (.bool true))]) (.op (.call false false 9 [(.t 5)]) none <| .op (.load true 2 (.t 4)) none <| .op (.call false false 10 [(.t 0)]) none <| .op (.ext (.t 0) 0) none <| .op (.ext (.t 1) 1) none <| .op (.call false false 11 [(.t 4)]) none <| .op (.ext (.t 0) 0) none <| .op (.ext (.t 1) 1) none <| .op (.ext (.t 2) 2) none <| .op (.alloc [.int .i64 0, .sl .nil 0 0 []]) none <| .op (.store 2 (.t 0) (.t 3)) none <| .op (.call false false 12 [(.t 16)]) none <| .op (.ext (.t 0) 0) none <| .op (.ext (.t 1) 1) none <| .op (.ext (.t 2) 2) none <| .op (.alloc [.int .i64 0, .sl .nil 0 0 []]) none <| .op (.store 2 (.t 0) (.t 3)) none <| .op (.load true 2 (.t 20)) none <| .op (.call false false 13 [(.t 0)]) none <| .op (.load true 2 (.t 22)) none <| .op (.call false false 14 [(.t 0)]) none <| .op (.bin .eql (.t 0) (.c (.int .i64 0))) none <| .op (.beq true (.t 0) (.t 3)) none <| .sel 16 (.t 0) false (.op (.un .not (.t 4)) none <| .sel 12 (.t 0) true (.op (.load true 2 (.t 27)) none <| .op (.call false false 14 [(.t 0)]) none <| .op (.bin .neq (.t 0) (.c (.int .i64 5))) none <| .sel 2 (.t 0) false (.op (.bin .neq (.t 22) (.c (.int .i64 5))) none <| .nx [(.t 0)]) (.c (.bool true)) <| .sel 3 (.t 0) false (.op (.len false (.t 24)) none <| .op (.bin .gtr (.t 0) (.c (.int .i64 0))) none <| .nx [(.t 0)]) (.c (.bool true)) <| .nx [(.t 0)]) (.c (.bool false)) <| .nx [(.t 0)]) (.c (.bool true)) <| .sel 12 (.t 0) false (.sel 9 (.t 5) true (.op (.bin .neq (.t 19) (.c (.int .i64 0))) none <| .sel 5 (.t 0) false (.op (.load true 2 (.t 28)) none <| .op (.call false false 16 [(.t 0)]) none <| .op (.call false false 15 [(.t 23), (.t 0)]) none <| .op (.un .not (.t 0)) none <| .nx [(.t 0)]) (.c (.bool true)) <| .nx [(.t 0)]) (.c (.bool false)) <| .nx [(.t 0)]) (.c (.bool true)) <| .cond (.t 0) (.ret [(.c (.bool false))]) (.op (.bin .eql (.t 16) (.c (.int .i64 0))) none <| .op (.beq false (.t 0) (.t 11)) none <| .sel 5 (.t 0) true (.sel 2 (.t 12) false (.op (.bin .eql (.t 18) (.c (.int .i64 3))) none <| .nx [(.t 0)]) (.c (.bool true)) <| .nx [(.t 0)]) (.c (.bool false)) <| .sel 3 (.t 0) true (.op (.bin .eql (.t 20) (.t 14)) none <| .nx [(.t 0)]) (.c (.bool false)) <| .sel 3 (.t 0) true (.op (.load true 2 (.t 19)) none <| .op (.load true 2 (.t 14)) none <| .op (.call false false 17 [(.t 1), (.t 0)]) none <| .nx [(.t 0)]) (.c (.bool false)) <| .sel 9 (.t 0) true (.op (.call false false 18 [(.t 36)]) none <| .op (.bin .geq (.t 37) (.c (.int .i64 200))) none <| .sel 2 (.t 0) true (.op (.bin .leq (.t 38) (.c (.int .i64 399))) none <| .nx [(.t 0)]) (.c (.bool false)) <| .op (.beq false (.t 2) (.t 0)) none <| .nx [(.t 0)]) (.c (.bool false)) <| .sel 3 (.t 0) true (.op (.call false false 15 [(.t 30), (.t 36)]) none <| .nx [(.t 0)]) (.c (.bool false)) <| .sel 1 (.t 0) true (.op (.call false false 19 []) none <| .nx [(.t 0)]) (.c (.bool false)) <| .ret [(.t 0)]))
def l3 : LF := ⟨122, 3, [], [.t 0], q3, false⟩
theorem t3 : treeOf Tryd.prog Tryd.f3 (fun d => if d = 3 then 4 else 0) (fun _ => []) false [] 3 100000 q3 = some l3 := by kernel_rfl
/-! wherry/wherrylaw13.AnswerBack -/
def q4_0 : LC := .op (.bin .add (.t 5) (.c (.int .i64 1))) none <| .nx [(.t 1), (.t 2), (.t 3), (.t 4), (.t 5), (.t 0)]
def q4_1 : LC := .op (.len false (.t 0)) none <| .op (.bin .lss (.t 6) (.t 0)) none <| .cond (.t 0) (.join [0, 1, 5, 6, 7, 8] (.block 1 (.op (.iad 2 (.t 2) (.t 7)) none <| .op (.load true 2 (.t 0)) none <| .op (.call false false 8 [(.t 0)]) none <| .cond (.t 0) (.ret [(.c (.bool true))]) (.op (.iad 2 (.t 5) (.t 10)) none <| .op (.load true 2 (.t 0)) none <| .op (.call false false 10 [(.t 0)]) none <| .op (.ext (.t 0) 0) none <| .op (.ext (.t 1) 1) none <| .op (.bin .neq (.t 0) (.c (.int .i64 0))) none <| .cond (.t 0) (.exit 1 [(.t 11), (.t 12), (.t 13), (.t 14), (.t 15), (.t 16)]) (.op (.app 1 1 (.t 13) (.t 2)) none <| .op (.bin .add (.t 16) (.c (.int .i64 1))) none <| .nx [(.t 13), (.t 14), (.t 1), (.t 4), (.t 0), (.t 18)])))) q4_0) (.exit 0 [(.t 2), (.t 3), (.t 4), (.t 5), (.t 6)])
def q4_2 : LC := .op (.bin .add (.t 4) (.c (.int .i64 1))) none <| .nx [(.t 1), (.t 2), (.t 3), (.t 4), (.t 0)]
def q4_3 : LC := .op (.len false (.t 0)) none <| .op (.bin .lss (.t 5) (.t 0)) none <| .cond (.t 0) (.join [0, 1, 6, 14, 15] (.block 3 (.op (.iad 2 (.t 2) (.t 6)) none <| .op (.load true 2 (.t 0)) none <| .op (.call false false 14 [(.t 0)]) none <| .op (.bin .neq (.t 0) (.c (.int .i64 0))) none <| .cond (.t 0) (.exit 3 [(.t 6), (.t 7), (.t 8), (.t 9), (.t 10)]) (.op (.call false false 11 [(.t 9)]) none <| .op (.ext (.t 0) 0) none <| .op (.ext (.t 1) 1) none <| .op (.ext (.t 2) 2) none <| .op (.alloc [.int .i64 0, .sl .nil 0 0 []]) none <| .op (.store 2 (.t 0) (.t 3)) none <| .op (.bin .neq (.t 2) (.c (.int .i64 0))) none <| .sel 2 (.t 0) false (.op (.bin .lss (.t 4) (.c (.int .i64 1))) none <| .nx [(.t 0)]) (.c (.bool true)) <| .sel 4 (.t 0) false (.op (.len false (.t 17)) none <| .op (.bin .gtr (.t 6) (.t 0)) none <| .nx [(.t 0)]) (.c (.bool true)) <| .sel 7 (.t 0) false (.op (.load true 2 (.t 4)) none <| .op (.iad 2 (.t 16) (.t 20)) none <| .op (.load true 2 (.t 0)) none <| .op (.call false false 17 [(.t 2), (.t 0)]) none <| .op (.un .not (.t 0)) none <| .nx [(.t 0)]) (.c (.bool true)) <| .cond (.t 0) (.ret [(.c (.bool false))]) (.op (.cut 1 (.t 19) (some (.t 7)) none) none <| .nx [(.t 17), (.t 18), (.t 19), (.t 0), (.t 21)])))) q4_2) (.exit 2 [(.t 3), (.t 4), (.t 5)])
def q4_4 : LC := .op (.len false (.t 1)) none <| .op (.bin .eql (.t 0) (.c (.int .i64 0))) none <| .cond (.t 0) (.ret [(.c (.bool false))]) (.op (.cvt .u64 (.t 2)) none <| .op (.len false (.t 4)) none <| .op (.cvt .u64 (.t 0)) none <| .op (.bin .rem (.t 2) (.t 0)) none <| .op (.cvt .i64 (.t 0)) none <| .op (.cut 1 (.t 8) none (some (.t 0))) none <| .op (.call false false 11 [(.t 0)]) none <| .op (.ext (.t 0) 0) none <| .op (.ext (.t 1) 1) none <| .op (.ext (.t 2) 2) none <| .op (.alloc [.int .i64 0, .sl .nil 0 0 []]) none <| .op (.store 2 (.t 0) (.t 3)) none <| .op (.len false (.t 16)) none <| .op (.bin .eql (.t 0) (.c (.int .i64 0))) none <| .sel 2 (.t 0) true (.op (.bin .eql (.t 4) (.c (.int .i64 3))) none <| .nx [(.t 0)]) (.c (.bool false)) <| .sel 1 (.t 0) true (.op (.call false false 19 []) none <| .nx [(.t 0)]) (.c (.bool false)) <| .ret [(.t 0)])
def q4_5 : LC := .op (.bin .eql (.t 4) (.c (.int .i64 0))) none <| .cond (.t 0) (.op (.call false false 11 [(.c (.sl .nil 0 0 []))]) none <| .op (.ext (.t 0) 0) none <| .op (.ext (.t 1) 1) none <| .op (.ext (.t 2) 2) none <| .op (.alloc [.int .i64 0, .sl .nil 0 0 []]) none <| .op (.store 2 (.t 0) (.t 3)) none <| .op (.bin .eql (.t 2) (.c (.int .i64 3))) none <| .sel 1 (.t 0) true (.op (.call false false 19 []) none <| .nx [(.t 0)]) (.c (.bool false)) <| .ret [(.t 0)]) (.join [1, 6, 14] (.block 2 (.loop [(.t 1), (.t 2), (.t 4), (.t 3), (.c (.int .i64 0))] q4_3)) q4_4)
def q4 : LC := .op (.len false (.t 0)) none <| .op (.bin .gtr (.t 0) (.c (.int .i64 20))) none <| .cond (.t 0) (.ret [(.c (.bool true))]) (.join [0, 1, 5, 6, 7] (.block 0 (.loop [(.t 2), (.t 3), (.c (.sl .nil 0 0 [])), (.c (.sl .nil 0 0 [])), (.c (.int .i64 0)), (.c (.int .i64 0))] q4_1)) q4_5)
def l4 : LF := ⟨134, 2, [], [.t 0], q4, false⟩
theorem t4 : treeOf Tryd.prog Tryd.f4 (fun d => if d = 5 then 2 else if d = 46 then 2 else if d = 48 then 2 else 0) (fun d => if d = 0 then [0, 1, 5, 6, 7, 8] else if d = 2 then [0, 1, 6, 14, 15] else []) false [] 2 100000 q4 = some l4 := by kernel_rfl
/-! wherry/wherrylaw13.AnswerReads -/
def q5 : LC := .op (.len false (.t 0)) none <| .op (.bin .gtr (.t 0) (.c (.int .i64 3000))) none <| .cond (.t 0) (.ret [(.c (.bool true))]) (.op (.call false false 11 [(.t 2)]) none <| .op (.ext (.t 0) 0) none <| .op (.ext (.t 1) 1) none <| .op (.ext (.t 2) 2) none <| .op (.alloc [.int .i64 0, .sl .nil 0 0 []]) none <| .op (.store 2 (.t 0) (.t 3)) none <| .op (.bin .neq (.t 2) (.c (.int .i64 0))) none <| .cond (.t 0) (.op (.bin .eql (.t 3) (.c (.int .i64 3))) none <| .sel 2 (.t 0) true (.op (.bin .eql (.t 5) (.c (.int .i64 0))) none <| .nx [(.t 0)]) (.c (.bool false)) <| .sel 3 (.t 0) true (.op (.load true 2 (.t 4)) none <| .op (.build [.int .i64 0, .sl .nil 0 0 []] []) none <| .op (.call false false 17 [(.t 1), (.t 0)]) none <| .nx [(.t 0)]) (.c (.bool false)) <| .sel 1 (.t 0) true (.op (.call false false 19 []) none <| .nx [(.t 0)]) (.c (.bool false)) <| .ret [(.t 0)]) (.op (.load true 2 (.t 2)) none <| .op (.call false false 10 [(.t 0)]) none <| .op (.ext (.t 0) 0) none <| .op (.ext (.t 1) 1) none <| .op (.bin .eql (.t 0) (.c (.int .i64 0))) none <| .sel 4 (.t 0) true (.op (.len false (.t 14)) none <| .op (.bin .leq (.t 10) (.t 0)) none <| .nx [(.t 0)]) (.c (.bool false)) <| .sel 2 (.t 0) true (.op (.bin .gtr (.t 10) (.c (.int .i64 0))) none <| .nx [(.t 0)]) (.c (.bool false)) <| .sel 5 (.t 0) true (.op (.cut 1 (.t 16) none (some (.t 11))) none <| .op (.call false false 15 [(.t 5), (.t 0)]) none <| .nx [(.t 0)]) (.c (.bool false)) <| .sel 1 (.t 0) true (.op (.call false false 19 []) none <| .nx [(.t 0)]) (.c (.bool false)) <| .ret [(.t 0)]))
def l5 : LF := ⟨60, 1, [], [.t 0], q5, false⟩
theorem t5 : treeOf Tryd.prog Tryd.f5 (fun _ => 0) (fun _ => []) false [] 1 100000 q5 = some l5 := by kernel_rfl
/-! wherry/wherrylaw13.AnswerEnds -/
def q6_0 : LC := .nx [(.t 0), (.t 1), (.t 2), (.t 3)]
def q6_1 : LC := .op (.len true (.t 3)) none <| .op (.bin .lss (.t 0) (.t 3)) none <| .cond (.t 0) (.join [0, 1, 2, 7] (.block 1 (.op (.bin .add (.t 5) (.c (.str [120]))) none <| .nx [(.t 3), (.t 4), (.t 5), (.t 0)])) q6_0) (.exit 0 [(.t 2), (.t 3), (.t 4), (.t 5)])
def q6_2 : LC := .op (.bin .add (.t 5) (.c (.int .i64 1))) none <| .nx [(.t 1), (.t 2), (.t 3), (.t 4), (.t 5), (.t 0)]
def q6_3 : LC := .op (.bin .lss (.t 5) (.t 1)) none <| .cond (.t 0) (.join [0, 1, 2, 7, 8, 9] (.block 3 (.op (.fad 1 (.t 5)) none <| .op (.load false 1 (.t 0)) none <| .op (.lit false 1 1 [.str []] [(0, 1, (.t 6))]) none <| .op (.app 1 16 (.t 1) (.t 0)) none <| .op (.fad 1 (.t 9)) none <| .op (.store 1 (.t 0) (.t 1)) none <| .nx [(.t 7), (.t 8), (.t 9), (.t 10), (.t 11), (.t 12)])) q6_2) (.exit 2 [(.t 1), (.t 2), (.t 3), (.t 5)])
def q6_4 : LC := .op (.load true 2 (.t 2)) none <| .op (.call false false 10 [(.t 0)]) none <| .op (.ext (.t 0) 0) none <| .op (.ext (.t 1) 1) none <| .op (.load true 2 (.t 6)) none <| .op (.call false false 14 [(.t 0)]) none <| .op (.bin .neq (.t 0) (.t 9)) none <| .sel 3 (.t 0) false (.op (.bin .neq (.t 3) (.t 10)) none <| .nx [(.t 0)]) (.c (.bool true)) <| .sel 7 (.t 0) false (.op (.bin .neq (.t 11) (.c (.int .i64 0))) none <| .sel 3 (.t 0) true (.op (.len false (.t 6)) none <| .op (.bin .neq (.t 0) (.c (.int .i64 0))) none <| .nx [(.t 0)]) (.c (.bool false)) <| .nx [(.t 0)]) (.c (.bool true)) <| .cond (.t 0) (.ret [(.c (.bool false))]) (.op (.bin .eql (.t 12) (.c (.int .i64 0))) none <| .sel 7 (.t 0) true (.op (.len false (.t 7)) none <| .op (.bin .add (.t 12) (.c (.int .i64 6))) none <| .op (.bin .mul (.t 12) (.t 0)) none <| .op (.bin .neq (.t 2) (.t 0)) none <| .nx [(.t 0)]) (.c (.bool false)) <| .cond (.t 0) (.ret [(.c (.bool false))]) (.op (.call false false 19 []) none <| .ret [(.t 0)]))
def q6_5 : LC := .op (.bin .geq (.t 0) (.c (.int .i64 200))) none <| .sel 2 (.t 0) true (.op (.bin .leq (.t 1) (.c (.int .i64 559))) none <| .nx [(.t 0)]) (.c (.bool false)) <| .sel 4 (.t 0) true (.op (.bin .quo (.t 2) (.c (.int .i64 10))) none <| .op (.bin .rem (.t 0) (.c (.int .i64 10))) none <| .op (.bin .leq (.t 0) (.c (.int .i64 5))) none <| .nx [(.t 0)]) (.c (.bool false)) <| .sel 2 (.t 0) true (.op (.bin .geq (.t 4) (.c (.int .i64 1))) none <| .nx [(.t 0)]) (.c (.bool false)) <| .sel 2 (.t 0) true (.op (.bin .leq (.t 5) (.c (.int .i64 20))) none <| .nx [(.t 0)]) (.c (.bool false)) <| .sel 2 (.t 0) true (.op (.bin .leq (.t 7) (.c (.int .i64 200))) none <| .nx [(.t 0)]) (.c (.bool false)) <| .join [1, 2, 8, 10] (.cond (.t 0) (.nx [(.t 7), (.t 8), (.t 9), (.c (.int .i64 0))]) (.nx [(.t 7), (.t 8), (.t 9), (.c (.int .i64 5))])) q6_4
def q6_6 : LC := .op (.build [.int .i64 0, .sl .nil 0 0 []] [(0, 1, (.t 0))]) none <| .op (.alloc [.int .i64 0, .sl .nil 0 0 []]) none <| .op (.store 2 (.t 0) (.t 1)) none <| .join [0, 1, 2, 8] (.block 2 (.loop [(.t 3), (.t 4), (.t 5), (.t 6), (.t 1), (.c (.int .i64 0))] q6_3)) q6_5
def q6 : LC := .op (.cvt .u64 (.t 1)) none <| .op (.bin .rem (.t 0) (.c (.int .u64 23))) none <| .op (.cvt .i64 (.t 0)) none <| .op (.cvt .u64 (.t 5)) none <| .op (.bin .rem (.t 0) (.c (.int .u64 3))) none <| .op (.cvt .i64 (.t 0)) none <| .op (.bin .add (.c (.int .i64 199)) (.t 0)) none <| .join [0, 1, 2, 7] (.block 0 (.loop [(.t 7), (.t 4), (.t 0), (.c (.str []))] q6_1)) q6_6
def l6 : LF := ⟨100, 3, [], [.t 0], q6, false⟩
theorem t6 : treeOf Tryd.prog Tryd.f6 (fun d => if d = 36 then 2 else 0) (fun d => if d = 0 then [0, 1, 2, 7] else if d = 2 then [0, 1, 2, 7, 8, 9] else []) false [] 3 100000 q6 = some l6 := by kernel_rfl
/-! wherry/wherrylaw13.AnswerMixed -/
def q7 : LC := .op (.cvt .u64 (.t 0)) none <| .op (.bin .rem (.t 0) (.c (.int .u64 60))) none <| .op (.cvt .i64 (.t 0)) none <| .op (.bin .add (.c (.int .i64 200)) (.t 0)) none <| .op (.call false false 20 [(.t 0)]) none <| .op (.bin .add (.t 1) (.c (.int .i64 100))) none <| .op (.call false false 20 [(.t 0)]) none <| .op (.bin .add (.t 2) (.c (.str [45, 97, 13, 10]))) none <| .op (.bin .add (.t 0) (.t 1)) none <| .op (.bin .add (.t 0) (.c (.str [32, 98, 13, 10]))) none <| .op (.bin .add (.t 5) (.c (.str [45, 97, 13, 10, 98, 13, 10]))) none <| .op (.bin .add (.t 6) (.c (.str [95, 97, 13, 10]))) none <| .op (.bin .add (.t 7) (.c (.str [32, 97, 10]))) none <| .op (.bin .add (.t 8) (.c (.str [45, 97, 13, 10]))) none <| .op (.bin .add (.c (.str [48])) (.t 9)) none <| .op (.bin .add (.t 0) (.c (.str [32, 97, 13, 10]))) none <| .op (.bin .add (.t 11) (.c (.str [13, 10]))) none <| .op (.bin .add (.c (.str [32])) (.t 12)) none <| .op (.bin .add (.t 0) (.c (.str [32, 97, 13, 10]))) none <| .op (.lit false 1 8 [.str [], .str [], .str [], .str [], .str [], .str [], .str [], .str []] [(0, 1, (.t 9)), (1, 1, (.t 8)), (2, 1, (.t 7)), (3, 1, (.t 6)), (4, 1, (.t 5)), (5, 1, (.t 3)), (6, 1, (.t 2)), (7, 1, (.t 0))]) none <| .op (.cvt .u64 (.t 21)) none <| .op (.bin .rem (.t 0) (.c (.int .u64 8))) none <| .op (.cvt .i64 (.t 0)) none <| .op (.iad 1 (.t 3) (.t 0)) none <| .op (.load false 1 (.t 0)) none <| .op (.s2b false (.t 0)) none <| .op (.call false false 11 [(.t 0)]) none <| .op (.ext (.t 0) 0) none <| .op (.ext (.t 1) 1) none <| .op (.ext (.t 2) 2) none <| .op (.alloc [.int .i64 0, .sl .nil 0 0 []]) none <| .op (.store 2 (.t 0) (.t 3)) none <| .op (.bin .add (.t 27) (.c (.str [45, 97, 13, 10]))) none <| .op (.bin .add (.t 0) (.t 28)) none <| .op (.bin .add (.t 0) (.c (.str [32, 98, 13, 10, 109, 111, 114, 101]))) none <| .op (.s2b false (.t 0)) none <| .op (.call false false 11 [(.t 0)]) none <| .op (.ext (.t 0) 0) none <| .op (.ext (.t 1) 1) none <| .op (.ext (.t 2) 2) none <| .op (.alloc [.int .i64 0, .sl .nil 0 0 []]) none <| .op (.store 2 (.t 0) (.t 3)) none <| .op (.bin .eql (.t 12) (.c (.int .i64 3))) none <| .sel 2 (.t 0) true (.op (.bin .eql (.t 14) (.c (.int .i64 0))) none <| .nx [(.t 0)]) (.c (.bool false)) <| .sel 3 (.t 0) true (.op (.fad 0 (.t 13)) none <| .op (.load false 1 (.t 0)) none <| .op (.bin .eql (.t 0) (.c (.int .i64 0))) none <| .nx [(.t 0)]) (.c (.bool false)) <| .sel 2 (.t 0) true (.op (.bin .eql (.t 5) (.c (.int .i64 0))) none <| .nx [(.t 0)]) (.c (.bool false)) <| .sel 2 (.t 0) true (.op (.bin .eql (.t 7) (.c (.int .i64 14))) none <| .nx [(.t 0)]) (.c (.bool false)) <| .sel 4 (.t 0) true (.op (.fad 0 (.t 6)) none <| .op (.load false 1 (.t 0)) none <| .op (.bin .eql (.t 0) (.t 45)) none <| .nx [(.t 0)]) (.c (.bool false)) <| .sel 4 (.t 0) true (.op (.fad 1 (.t 7)) none <| .op (.load false 1 (.t 0)) none <| .op (.len false (.t 0)) none <| .op (.bin .eql (.t 0) (.c (.int .i64 2))) none <| .nx [(.t 0)]) (.c (.bool false)) <| .sel 1 (.t 0) true (.op (.call false false 19 []) none <| .nx [(.t 0)]) (.c (.bool false)) <| .ret [(.t 0)]
def l7 : LF := ⟨104, 2, [], [.t 0], q7, false⟩
theorem t7 : treeOf Tryd.prog Tryd.f7 (fun _ => 0) (fun _ => []) false [] 2 100000 q7 = some l7 := by kernel_rfl
/-! wherry/wherrylaw13.heavy -/
def q8_0 : LC := .op (.bin .add (.t 2) (.c (.int .i64 1))) none <| .nx [(.t 1), (.t 2), (.t 0)]
def q8_1 : LC := .op (.fad 1 (.t 0)) none <| .op (.load false 1 (.t 0)) none <| .op (.len false (.t 0)) none <| .op (.bin .lss (.t 5) (.t 0)) none <| .cond (.t 0) (.join [1, 3, 4] (.block 1 (.op (.fad 1 (.t 4)) none <| .op (.load false 1 (.t 0)) none <| .op (.iad 1 (.t 0) (.t 8)) none <| .op (.load false 1 (.t 0)) none <| .op (.len true (.t 0)) none <| .op (.bin .add (.t 10) (.t 0)) none <| .nx [(.t 10), (.t 0), (.t 12)])) q8_0) (.exit 0 [(.t 4), (.t 5)])
def q8_2 : LC := .op (.bin .gtr (.t 1) (.c (.int .i64 6000))) none <| .sel 4 (.t 0) false (.op (.fad 1 (.t 1)) none <| .op (.load false 1 (.t 0)) none <| .op (.len false (.t 0)) none <| .op (.bin .gtr (.t 0) (.c (.int .i64 40))) none <| .nx [(.t 0)]) (.c (.bool true)) <| .ret [(.t 0)]
def q8 : LC := .op (.boxc (.t 0)) none <| .join [1, 3] (.block 0 (.loop [(.t 0), (.c (.int .i64 0)), (.c (.int .i64 0))] q8_1)) q8_2
def l8 : LF := ⟨28, 1, [], [.t 0], q8, false⟩
theorem t8 : treeOf Tryd.prog Tryd.f8 (fun d => if d = 1 then 4 else 0) (fun d => if d = 0 then [1, 3, 4] else []) false [] 1 100000 q8 = some l8 := by kernel_rfl
/-! wherry/wherrykeep.Twin -/
def q9 : LC := .op (.app 1 1 (.c (.sl .nil 0 0 [])) (.t 0)) none <| .ret [(.t 0)]
def l9 : LF := ⟨7, 1, [], [.t 0], q9, false⟩
theorem t9 : treeOf Tryd.prog Tryd.f9 (fun d => if d = 3 then 2 else if d = 4 then 2 else 0) (fun _ => []) false [] 1 100000 q9 = some l9 := by kernel_rfl
/-! wherry/answer.Bytes -/
def q10_0 : LC := .op (.fad 0 (.t 0)) none <| .op (.load false 1 (.t 0)) none <| .op (.call true false 21 [(.t 3), (.t 0), (.c (.int .i64 10))]) none <| .op (.lit false 1 1 [.int .u8 0] [(0, 1, (.t 6))]) none <| .op (.app 1 1 (.t 1) (.t 0)) none <| .op (.app 1 1 (.t 0) (.t 7)) none <| .op (.lit false 1 2 [.int .u8 0, .int .u8 0] [(0, 1, (.c (.int .u8 13))), (1, 1, (.c (.int .u8 10)))]) none <| .op (.app 1 1 (.t 1) (.t 0)) none <| .nx [(.t 8), (.t 0), (.t 12), (.t 13), (.t 14)]
def q10_1 : LC := .op (.bin .add (.t 4) (.c (.int .i64 1))) none <| .nx [(.t 1), (.t 2), (.t 3), (.t 4), (.t 0)]
def q10_2 : LC := .op (.bin .lss (.t 4) (.t 3)) none <| .cond (.t 0) (.join [1, 5, 15, 16, 17] (.block 1 (.op (.iad 1 (.t 3) (.t 5)) none <| .op (.load false 1 (.t 0)) none <| .op (.fad 1 (.t 3)) none <| .op (.load false 1 (.t 0)) none <| .op (.len false (.t 0)) none <| .op (.bin .sub (.t 0) (.c (.int .i64 1))) none <| .op (.bin .eql (.t 11) (.t 0)) none <| .join [1, 5, 7, 8, 15, 16, 17] (.cond (.t 0) (.nx [(.t 8), (.t 9), (.t 5), (.c (.int .u8 32)), (.t 10), (.t 11), (.t 12)]) (.nx [(.t 8), (.t 9), (.t 5), (.c (.int .u8 45)), (.t 10), (.t 11), (.t 12)])) q10_0)) q10_1) (.exit 0 [(.t 2)])
def q10_3 : LC := .ret [(.t 0), (.c (.int .i64 0))]
def q10 : LC := .op (.boxc (.t 0)) none <| .op (.load true 2 (.t 0)) none <| .op (.call false false 14 [(.t 0)]) none <| .op (.bin .neq (.t 0) (.c (.int .i64 0))) none <| .cond (.t 0) (.ret [(.c (.sl .nil 0 0 [])), (.t 1)]) (.op (.fad 1 (.t 3)) none <| .op (.load false 1 (.t 0)) none <| .op (.len false (.t 0)) none <| .join [5] (.block 0 (.loop [(.t 6), (.c (.sl .nil 0 0 [])), (.t 1), (.t 0), (.c (.int .i64 0))] q10_2)) q10_3)
def l10 : LF := ⟨42, 1, [], [.t 0, .t 1], q10, false⟩
theorem t10 : treeOf Tryd.prog Tryd.f10 (fun d => if d = 1 then 4 else if d = 5 then 2 else if d = 31 then 3 else if d = 34 then 2 else if d = 35 then 2 else if d = 37 then 2 else if d = 39 then 2 else 0) (fun d => if d = 0 then [1, 5, 15, 16, 17] else []) false [] 1 100000 q10 = some l10 := by kernel_rfl
/-! wherry/answer.Read -/
def q11_0 : LC := .nx [(.t 0), (.t 1), (.t 2)]
def q11_1 : LC := .op (.fad 1 (.t 1)) none <| .op (.load false 1 (.t 0)) none <| .op (.len false (.t 0)) none <| .op (.bin .lss (.t 0) (.c (.int .i64 20))) none <| .cond (.t 0) (.join [0, 2, 5] (.block 1 (.op (.lit false 1 2 [.int .u8 0, .int .u8 0] [(0, 1, (.c (.int .u8 13))), (1, 1, (.c (.int .u8 10)))]) none <| .op (.call false false 22 [(.t 7), (.t 0)]) none <| .op (.ext (.t 0) 0) none <| .op (.ext (.t 1) 1) none <| .op (.ext (.t 2) 2) none <| .op (.un .not (.t 0)) none <| .sel 3 (.t 0) false (.op (.len false (.t 3)) none <| .op (.bin .lss (.t 0) (.c (.int .i64 4))) none <| .nx [(.t 0)]) (.c (.bool true)) <| .cond (.t 0) (.exit 0 [(.t 12)]) (.op (.cut 1 (.t 4) none (some (.c (.int .i64 3)))) none <| .op (.b2s (.t 0)) none <| .op (.call false false 23 [(.t 0)]) none <| .op (.ext (.t 0) 0) none <| .op (.ext (.t 1) 1) none <| .op (.inil true (.t 0)) none <| .sel 10 (.t 0) false (.op (.fad 1 (.t 18)) none <| .op (.load false 1 (.t 0)) none <| .op (.len false (.t 0)) none <| .op (.bin .gtr (.t 0) (.c (.int .i64 0))) none <| .sel 4 (.t 0) true (.op (.fad 0 (.t 22)) none <| .op (.load false 1 (.t 0)) none <| .op (.bin .neq (.t 8) (.t 0)) none <| .nx [(.t 0)]) (.c (.bool false)) <| .nx [(.t 0)]) (.c (.bool true)) <| .cond (.t 0) (.exit 0 [(.t 19)]) (.op (.fad 1 (.t 19)) none <| .op (.load false 1 (.t 0)) none <| .op (.cut 1 (.t 13) (some (.c (.int .i64 4))) none) none <| .op (.b2s (.t 0)) none <| .op (.lit false 1 1 [.str []] [(0, 1, (.t 0))]) none <| .op (.app 1 16 (.t 3) (.t 0)) none <| .op (.fad 0 (.t 25)) none <| .op (.store 1 (.t 0) (.t 10)) none <| .op (.fad 1 (.t 27)) none <| .op (.store 1 (.t 0) (.t 3)) none <| .op (.iad 1 (.t 21) (.c (.int .i64 3))) none <| .op (.load false 1 (.t 0)) none <| .op (.bin .eql (.t 0) (.c (.int .u8 45))) none <| .cond (.t 0) (.exit 1 [(.t 31), (.t 32), (.t 23)]) (.op (.load true 2 (.t 32)) none <| .op (.call false false 10 [(.t 0)]) none <| .op (.ext (.t 0) 0) none <| .op (.ext (.t 1) 1) none <| .op (.len false (.t 35)) none <| .op (.len false (.t 28)) none <| .op (.bin .sub (.t 1) (.t 0)) none <| .op (.iad 1 (.t 31) (.c (.int .i64 3))) none <| .op (.load false 1 (.t 0)) none <| .op (.bin .neq (.t 0) (.c (.int .u8 32))) none <| .sel 2 (.t 0) false (.op (.bin .neq (.t 6) (.c (.int .i64 0))) none <| .nx [(.t 0)]) (.c (.bool true)) <| .sel 6 (.t 0) false (.op (.cut 1 (.t 42) none (some (.t 4))) none <| .op (.call false false 24 [(.t 9), (.t 0)]) none <| .op (.un .not (.t 0)) none <| .nx [(.t 0)]) (.c (.bool true)) <| .cond (.t 0) (.exit 0 [(.t 44)]) (.op (.load true 2 (.t 44)) none <| .op (.store 2 (.t 45) (.t 0)) none <| .ret [(.t 46), (.t 7), (.c (.int .i64 0))])))))) q11_0) (.exit 0 [(.t 5)])
def q11_2 : LC := .op (.build [.int .i64 0, .sl .nil 0 0 []] []) none <| .op (.store 2 (.t 1) (.t 0)) none <| .ret [(.t 2), (.c (.int .i64 0)), (.c (.int .i64 3))]
def q11 : LC := .op (.alloc [.int .i64 0, .sl .nil 0 0 []]) none <| .join [2] (.block 0 (.loop [(.t 1), (.t 0), (.t 1)] q11_1)) q11_2
def l11 : LF := ⟨97, 1, [], [.cell 0 true 2, .t 1, .t 2], q11, false⟩
theorem t11 : treeOf Tryd.prog Tryd.f11 (fun d => if d = 55 then 2 else 0) (fun d => if d = 0 then [0, 2, 5] else []) false [] 1 100000 q11 = some l11 := by kernel_rfl
/-! wherry/wherryref11.ReadReply -/
def q12_0 : LC := .nx [(.t 0), (.t 1), (.t 2), (.t 3)]
def q12_1 : LC := .join [0, 2, 5, 6] (.block 1 (.op (.call false false 25 [(.t 0), (.t 3)]) none <| .op (.bin .lss (.t 0) (.c (.int .i64 0))) none <| .sel 4 (.t 0) false (.op (.bin .sub (.t 1) (.t 5)) none <| .op (.bin .lss (.t 0) (.c (.int .i64 4))) none <| .nx [(.t 0)]) (.c (.bool true)) <| .sel 4 (.t 0) false (.op (.fad 1 (.t 5)) none <| .op (.load false 1 (.t 0)) none <| .op (.len false (.t 0)) none <| .op (.bin .geq (.t 0) (.c (.int .i64 20))) none <| .nx [(.t 0)]) (.c (.bool true)) <| .cond (.t 0) (.op (.build [.int .i64 0, .sl .nil 0 0 []] []) none <| .op (.store 2 (.t 6) (.t 0)) none <| .ret [(.t 7), (.c (.int .i64 0)), (.c (.bool false))]) (.op (.cut 1 (.t 4) (some (.t 7)) (some (.t 3))) none <| .op (.b2s (.t 0)) none <| .op (.cut 0 (.t 0) none (some (.c (.int .i64 3)))) none <| .op (.call false false 26 [(.t 0), (.c (.int .i64 3))]) none <| .op (.bin .lss (.t 0) (.c (.int .i64 0))) none <| .sel 10 (.t 0) false (.op (.fad 1 (.t 11)) none <| .op (.load false 1 (.t 0)) none <| .op (.len false (.t 0)) none <| .op (.bin .gtr (.t 0) (.c (.int .i64 0))) none <| .sel 4 (.t 0) true (.op (.fad 0 (.t 15)) none <| .op (.load false 1 (.t 0)) none <| .op (.bin .neq (.t 7) (.t 0)) none <| .nx [(.t 0)]) (.c (.bool false)) <| .nx [(.t 0)]) (.c (.bool true)) <| .sel 8 (.t 0) false (.op (.idx (.t 4) (.c (.int .i64 3))) none <| .op (.bin .neq (.t 0) (.c (.int .u8 45))) none <| .sel 3 (.t 0) true (.op (.idx (.t 6) (.c (.int .i64 3))) none <| .op (.bin .neq (.t 0) (.c (.int .u8 32))) none <| .nx [(.t 0)]) (.c (.bool false)) <| .nx [(.t 0)]) (.c (.bool true)) <| .cond (.t 0) (.op (.build [.int .i64 0, .sl .nil 0 0 []] []) none <| .op (.store 2 (.t 13) (.t 0)) none <| .ret [(.t 14), (.c (.int .i64 0)), (.c (.bool false))]) (.op (.fad 0 (.t 13)) none <| .op (.store 1 (.t 0) (.t 4)) none <| .op (.fad 1 (.t 15)) none <| .op (.load false 1 (.t 0)) none <| .op (.cut 0 (.t 9) (some (.c (.int .i64 4))) none) none <| .op (.lit false 1 1 [.str []] [(0, 1, (.t 0))]) none <| .op (.app 1 16 (.t 2) (.t 0)) none <| .op (.fad 1 (.t 20)) none <| .op (.store 1 (.t 0) (.t 1)) none <| .op (.bin .add (.t 19) (.c (.int .i64 2))) none <| .op (.idx (.t 15) (.c (.int .i64 3))) none <| .op (.bin .eql (.t 0) (.c (.int .u8 32))) none <| .cond (.t 0) (.op (.load true 2 (.t 25)) none <| .op (.call false false 13 [(.t 0)]) none <| .op (.un .not (.t 0)) none <| .cond (.t 0) (.op (.build [.int .i64 0, .sl .nil 0 0 []] []) none <| .op (.store 2 (.t 28) (.t 0)) none <| .ret [(.t 29), (.c (.int .i64 0)), (.c (.bool false))]) (.op (.load true 2 (.t 28)) none <| .op (.store 2 (.t 28) (.t 0)) none <| .ret [(.t 29), (.t 7), (.c (.bool true))])) (.nx [(.t 23), (.t 24), (.t 25), (.t 2)]))))) q12_0
def q12_2 : LC := .nx [(.t 0), (.t 1), (.t 2)]
def q12 : LC := .op (.alloc [.int .i64 0, .sl .nil 0 0 []]) none <| .op (.alloc [.int .i64 0, .sl .nil 0 0 []]) none <| .join [2, 3, 4] (.block 0 (.loop [(.t 2), (.t 1), (.t 0), (.c (.int .i64 0))] q12_1)) q12_2
def l12 : LF := ⟨81, 1, [], [.cell 0 true 2, .t 1, .t 2], q12, false⟩
theorem t12 : treeOf Tryd.prog Tryd.f12 (fun d => if d = 64 then 2 else 0) (fun d => if d = 0 then [0, 2, 5, 6] else []) false [] 1 100000 q12 = some l12 := by kernel_rfl
/-! wherry/wherryref11.Reply -/
def q13_0 : LC := .op (.bin .add (.t 2) (.c (.int .i64 1))) none <| .nx [(.t 1), (.t 2), (.t 0)]
def q13_1 : LC := .op (.fad 1 (.t 0)) none <| .op (.load false 1 (.t 0)) none <| .op (.iad 1 (.t 0) (.t 3)) none <| .op (.load false 1 (.t 0)) none <| .op (.len true (.t 0)) none <| .op (.bin .lss (.t 7) (.t 0)) none <| .cond (.t 0) (.join [1, 3, 4] (.block 3 (.op (.fad 1 (.t 6)) none <| .op (.load false 1 (.t 0)) none <| .op (.iad 1 (.t 0) (.t 9)) none <| .op (.load false 1 (.t 0)) none <| .op (.idx (.t 0) (.t 12)) none <| .op (.bin .lss (.t 0) (.c (.int .u8 32))) none <| .sel 8 (.t 0) false (.op (.fad 1 (.t 12)) none <| .op (.load false 1 (.t 0)) none <| .op (.iad 1 (.t 0) (.t 15)) none <| .op (.load false 1 (.t 0)) none <| .op (.idx (.t 0) (.t 18)) none <| .op (.bin .gtr (.t 0) (.c (.int .u8 126))) none <| .nx [(.t 0)]) (.c (.bool true)) <| .cond (.t 0) (.ret [(.c (.bool false))]) (.nx [(.t 13), (.t 14), (.t 15)]))) q13_0) (.exit 2 [(.t 6), (.t 7)])
def q13_2 : LC := .nx [(.t 0), (.t 1)]
def q13_3 : LC := .op (.bin .add (.t 1) (.c (.int .i64 1))) none <| .nx [(.t 1), (.t 0)]
def q13_4 : LC := .op (.fad 1 (.t 0)) none <| .op (.load false 1 (.t 0)) none <| .op (.len false (.t 0)) none <| .op (.bin .lss (.t 4) (.t 0)) none <| .cond (.t 0) (.join [1, 3] (.block 1 (.op (.fad 1 (.t 4)) none <| .op (.load false 1 (.t 0)) none <| .op (.iad 1 (.t 0) (.t 7)) none <| .op (.load false 1 (.t 0)) none <| .op (.len true (.t 0)) none <| .op (.bin .gtr (.t 0) (.c (.int .i64 200))) none <| .cond (.t 0) (.ret [(.c (.bool false))]) (.join [1, 3] (.block 2 (.loop [(.t 10), (.t 11), (.c (.int .i64 0))] q13_1)) q13_2))) q13_3) (.exit 0 [])
def q13_5 : LC := .ret [(.c (.bool true))]
def q13 : LC := .op (.boxc (.t 0)) none <| .op (.fad 0 (.t 0)) none <| .op (.load false 1 (.t 0)) none <| .op (.call false false 27 [(.t 0), (.c (.int .i64 200)), (.c (.int .i64 559))]) none <| .op (.un .not (.t 0)) none <| .sel 5 (.t 0) false (.op (.fad 0 (.t 4)) none <| .op (.load false 1 (.t 0)) none <| .op (.bin .quo (.t 0) (.c (.int .i64 10))) none <| .op (.bin .rem (.t 0) (.c (.int .i64 10))) none <| .op (.bin .gtr (.t 0) (.c (.int .i64 5))) none <| .nx [(.t 0)]) (.c (.bool true)) <| .sel 5 (.t 0) false (.op (.fad 1 (.t 5)) none <| .op (.load false 1 (.t 0)) none <| .op (.len false (.t 0)) none <| .op (.call false false 27 [(.t 0), (.c (.int .i64 1)), (.c (.int .i64 20))]) none <| .op (.un .not (.t 0)) none <| .nx [(.t 0)]) (.c (.bool true)) <| .cond (.t 0) (.ret [(.c (.bool false))]) (.join [] (.block 0 (.loop [(.t 6), (.c (.int .i64 0))] q13_4)) q13_5)
def l13 : LF := ⟨65, 1, [], [.t 0], q13, false⟩
theorem t13 : treeOf Tryd.prog Tryd.f13 (fun d => if d = 1 then 4 else 0) (fun d => if d = 0 then [1, 3] else if d = 2 then [1, 3, 4] else []) false [] 1 100000 q13 = some l13 := by kernel_rfl
/-! wherry/answer.Check -/
def q14_0 : LC := .op (.bin .add (.t 2) (.c (.int .i64 1))) none <| .nx [(.t 1), (.t 2), (.t 0)]
def q14_1 : LC := .op (.bin .lss (.t 2) (.t 1)) none <| .cond (.t 0) (.join [22, 23, 24] (.block 1 (.op (.iad 1 (.t 1) (.t 3)) none <| .op (.load false 1 (.t 0)) none <| .op (.call false false 29 [(.t 0)]) none <| .op (.un .not (.t 0)) none <| .cond (.t 0) (.ret [(.c (.int .i64 5))]) (.nx [(.t 5), (.t 6), (.t 7)]))) q14_0) (.exit 0 [])
def q14_2 : LC := .ret [(.c (.int .i64 0))]
def q14 : LC := .op (.boxc (.t 0)) none <| .op (.fad 0 (.t 0)) none <| .op (.load false 1 (.t 0)) none <| .op (.call false false 28 [(.t 0)]) none <| .op (.un .not (.t 0)) none <| .sel 4 (.t 0) false (.op (.fad 1 (.t 4)) none <| .op (.load false 1 (.t 0)) none <| .op (.len false (.t 0)) none <| .op (.bin .lss (.t 0) (.c (.int .i64 1))) none <| .nx [(.t 0)]) (.c (.bool true)) <| .sel 4 (.t 0) false (.op (.fad 1 (.t 5)) none <| .op (.load false 1 (.t 0)) none <| .op (.len false (.t 0)) none <| .op (.bin .gtr (.t 0) (.c (.int .i64 20))) none <| .nx [(.t 0)]) (.c (.bool true)) <| .cond (.t 0) (.ret [(.c (.int .i64 5))]) (.op (.fad 1 (.t 6)) none <| .op (.load false 1 (.t 0)) none <| .op (.len false (.t 0)) none <| .join [] (.block 0 (.loop [(.t 1), (.t 0), (.c (.int .i64 0))] q14_1)) q14_2)
def l14 : LF := ⟨32, 1, [], [.t 0], q14, false⟩
theorem t14 : treeOf Tryd.prog Tryd.f14 (fun d => if d = 1 then 4 else 0) (fun d => if d = 0 then [22, 23, 24] else []) false [] 1 100000 q14 = some l14 := by kernel_rfl
/-! wherry/wherrykeep.Bytes -/
def q15_0 : LC := .op (.bin .add (.t 2) (.c (.int .i64 1))) none <| .nx [(.t 1), (.t 2), (.t 0)]
def q15_1 : LC := .op (.len false (.t 0)) none <| .op (.bin .lss (.t 3) (.t 0)) none <| .cond (.t 0) (.join [0, 1, 5] (.block 1 (.op (.iad 1 (.t 2) (.t 4)) none <| .op (.load false 1 (.t 0)) none <| .op (.iad 1 (.t 5) (.t 6)) none <| .op (.load false 1 (.t 0)) none <| .op (.bin .neq (.t 2) (.t 0)) none <| .cond (.t 0) (.ret [(.c (.bool false))]) (.nx [(.t 7), (.t 8), (.t 9)]))) q15_0) (.exit 0 [])
def q15_2 : LC := .ret [(.c (.bool true))]
def q15 : LC := .op (.len false (.t 0)) none <| .op (.len false (.t 2)) none <| .op (.bin .neq (.t 1) (.t 0)) none <| .cond (.t 0) (.ret [(.c (.bool false))]) (.join [] (.block 0 (.loop [(.t 3), (.t 4), (.c (.int .i64 0))] q15_1)) q15_2)
def l15 : LF := ⟨26, 2, [], [.t 0], q15, false⟩
theorem t15 : treeOf Tryd.prog Tryd.f15 (fun _ => 0) (fun d => if d = 0 then [0, 1, 5] else []) false [] 2 100000 q15 = some l15 := by kernel_rfl
/-! wherry/wherryref11.ReplyBytes -/
def q16_0 : LC := .op (.fad 0 (.t 0)) none <| .op (.load false 1 (.t 0)) none <| .op (.call false false 20 [(.t 0)]) none <| .op (.bin .add (.t 4) (.t 0)) none <| .op (.bin .add (.t 0) (.t 7)) none <| .op (.fad 1 (.t 5)) none <| .op (.load false 1 (.t 0)) none <| .op (.iad 1 (.t 0) (.t 9)) none <| .op (.load false 1 (.t 0)) none <| .op (.bin .add (.t 4) (.t 0)) none <| .op (.bin .add (.t 0) (.c (.str [13, 10]))) none <| .nx [(.t 11), (.t 0), (.t 13)]
def q16_1 : LC := .op (.bin .add (.t 2) (.c (.int .i64 1))) none <| .nx [(.t 1), (.t 2), (.t 0)]
def q16_2 : LC := .op (.fad 1 (.t 0)) none <| .op (.load false 1 (.t 0)) none <| .op (.len false (.t 0)) none <| .op (.bin .lss (.t 5) (.t 0)) none <| .cond (.t 0) (.join [1, 3, 4] (.block 1 (.op (.fad 1 (.t 4)) none <| .op (.load false 1 (.t 0)) none <| .op (.len false (.t 0)) none <| .op (.bin .sub (.t 0) (.c (.int .i64 1))) none <| .op (.bin .eql (.t 10) (.t 0)) none <| .join [1, 3, 4, 5] (.cond (.t 0) (.nx [(.t 9), (.t 10), (.t 11), (.c (.str [32]))]) (.nx [(.t 9), (.t 10), (.t 11), (.c (.str [45]))])) q16_0)) q16_1) (.exit 0 [(.t 5)])
def q16_3 : LC := .op (.s2b false (.t 0)) none <| .ret [(.t 0)]
def q16 : LC := .op (.boxc (.t 0)) none <| .join [3] (.block 0 (.loop [(.t 0), (.c (.str [])), (.c (.int .i64 0))] q16_2)) q16_3
def l16 : LF := ⟨35, 1, [], [.t 0], q16, false⟩
theorem t16 : treeOf Tryd.prog Tryd.f16 (fun d => if d = 1 then 4 else 0) (fun d => if d = 0 then [1, 3, 4] else []) false [] 1 100000 q16 = some l16 := by kernel_rfl
/-! wherry/wherrykeep.Reply -/
def q17_0 : LC := .op (.bin .add (.t 2) (.c (.int .i64 1))) none <| .nx [(.t 1), (.t 2), (.t 0)]
def q17_1 : LC := .op (.fad 1 (.t 0)) none <| .op (.load false 1 (.t 0)) none <| .op (.len false (.t 0)) none <| .op (.bin .lss (.t 5) (.t 0)) none <| .cond (.t 0) (.join [2, 3, 5] (.block 1 (.op (.fad 1 (.t 4)) none <| .op (.load false 1 (.t 0)) none <| .op (.iad 1 (.t 0) (.t 8)) none <| .op (.load false 1 (.t 0)) none <| .op (.fad 1 (.t 9)) none <| .op (.load false 1 (.t 0)) none <| .op (.iad 1 (.t 0) (.t 12)) none <| .op (.load false 1 (.t 0)) none <| .op (.bin .neq (.t 4) (.t 0)) none <| .cond (.t 0) (.ret [(.c (.bool false))]) (.nx [(.t 13), (.t 14), (.t 15)]))) q17_0) (.exit 0 [])
def q17_2 : LC := .ret [(.c (.bool true))]
def q17 : LC := .op (.boxc (.t 0)) none <| .op (.boxc (.t 2)) none <| .op (.fad 0 (.t 1)) none <| .op (.load false 1 (.t 0)) none <| .op (.fad 0 (.t 2)) none <| .op (.load false 1 (.t 0)) none <| .op (.bin .neq (.t 2) (.t 0)) none <| .sel 7 (.t 0) false (.op (.fad 1 (.t 6)) none <| .op (.load false 1 (.t 0)) none <| .op (.len false (.t 0)) none <| .op (.fad 1 (.t 8)) none <| .op (.load false 1 (.t 0)) none <| .op (.len false (.t 0)) none <| .op (.bin .neq (.t 3) (.t 0)) none <| .nx [(.t 0)]) (.c (.bool true)) <| .cond (.t 0) (.ret [(.c (.bool false))]) (.join [] (.block 0 (.loop [(.t 7), (.t 6), (.c (.int .i64 0))] q17_1)) q17_2)
def l17 : LF := ⟨38, 2, [], [.t 0], q17, false⟩
theorem t17 : treeOf Tryd.prog Tryd.f17 (fun d => if d = 2 then 4 else if d = 3 then 4 else 0) (fun d => if d = 0 then [2, 3, 5] else []) false [] 2 100000 q17 = some l17 := by kernel_rfl
/-! wherry/answer.Good -/
def q18 : LC := .op (.bin .geq (.t 0) (.c (.int .i64 200))) none <| .sel 2 (.t 0) true (.op (.bin .leq (.t 1) (.c (.int .i64 399))) none <| .nx [(.t 0)]) (.c (.bool false)) <| .ret [(.t 0)]
def l18 : LF := ⟨9, 1, [], [.t 0], q18, false⟩
theorem t18 : treeOf Tryd.prog Tryd.f18 (fun _ => 0) (fun _ => []) false [] 1 100000 q18 = some l18 := by kernel_rfl
/-! wherry/wherrylaw13.wakes -/
def q19 : LC := .op (.lit false 1 1 [.str []] [(0, 1, (.c (.str [111, 107])))]) none <| .op (.build [.int .i64 0, .sl .nil 0 0 []] [(0, 1, (.c (.int .i64 250))), (1, 1, (.t 0))]) none <| .op (.alloc [.int .i64 0, .sl .nil 0 0 []]) none <| .op (.store 2 (.t 0) (.t 1)) none <| .op (.load true 2 (.t 1)) none <| .op (.call false false 10 [(.t 0)]) none <| .op (.ext (.t 0) 0) none <| .op (.ext (.t 1) 1) none <| .op (.call false false 11 [(.t 1)]) none <| .op (.ext (.t 0) 0) none <| .op (.ext (.t 1) 1) none <| .op (.ext (.t 2) 2) none <| .op (.alloc [.int .i64 0, .sl .nil 0 0 []]) none <| .op (.store 2 (.t 0) (.t 3)) none <| .op (.bin .eql (.t 6) (.c (.int .i64 0))) none <| .sel 2 (.t 0) true (.op (.bin .eql (.t 3) (.c (.int .i64 0))) none <| .nx [(.t 0)]) (.c (.bool false)) <| .sel 3 (.t 0) true (.op (.b2s (.t 9)) none <| .op (.bin .eql (.t 0) (.c (.str [50, 53, 48, 32, 111, 107, 13, 10]))) none <| .nx [(.t 0)]) (.c (.bool false)) <| .sel 2 (.t 0) true (.op (.bin .eql (.t 6) (.c (.int .i64 8))) none <| .nx [(.t 0)]) (.c (.bool false)) <| .sel 3 (.t 0) true (.op (.load true 2 (.t 5)) none <| .op (.load true 2 (.t 16)) none <| .op (.call false false 17 [(.t 1), (.t 0)]) none <| .nx [(.t 0)]) (.c (.bool false)) <| .sel 4 (.t 0) true (.op (.lit false 1 1 [.str []] [(0, 1, (.c (.str [97])))]) none <| .op (.build [.int .i64 0, .sl .nil 0 0 []] [(0, 1, (.c (.int .i64 270))), (1, 1, (.t 0))]) none <| .op (.call false false 14 [(.t 0)]) none <| .op (.bin .eql (.t 0) (.c (.int .i64 5))) none <| .nx [(.t 0)]) (.c (.bool false)) <| .sel 1 (.t 0) true (.op (.call false false 18 [(.c (.int .i64 250))]) none <| .nx [(.t 0)]) (.c (.bool false)) <| .sel 2 (.t 0) true (.op (.call false false 18 [(.c (.int .i64 503))]) none <| .op (.un .not (.t 0)) none <| .nx [(.t 0)]) (.c (.bool false)) <| .ret [(.t 0)]
def l19 : LF := ⟨53, 0, [], [.t 0], q19, false⟩
theorem t19 : treeOf Tryd.prog Tryd.f19 (fun _ => 0) (fun _ => []) false [] 0 100000 q19 = some l19 := by kernel_rfl
/-! wherry/wherryref11.Digits -/
def q20_0 : LC := .nx [(.t 0), (.t 1)]
def q20_1 : LC := .op (.bin .gtr (.t 0) (.c (.int .i64 9))) none <| .cond (.t 0) (.join [0, 3] (.block 1 (.op (.bin .rem (.t 1) (.c (.int .i64 10))) none <| .op (.bin .rem (.t 2) (.c (.int .i64 10))) none <| .op (.bin .add (.t 0) (.c (.int .i64 1))) none <| .op (.cut 0 (.c (.str [48, 49, 50, 51, 52, 53, 54, 55, 56, 57])) (some (.t 2)) (some (.t 0))) none <| .op (.bin .add (.t 0) (.t 6)) none <| .op (.bin .quo (.t 6) (.c (.int .i64 10))) none <| .nx [(.t 0), (.t 1)])) q20_0) (.exit 0 [(.t 1), (.t 2)])
def q20_2 : LC := .op (.bin .add (.t 0) (.c (.int .i64 1))) none <| .op (.cut 0 (.c (.str [48, 49, 50, 51, 52, 53, 54, 55, 56, 57])) (some (.t 1)) (some (.t 0))) none <| .op (.bin .add (.t 0) (.t 3)) none <| .ret [(.t 0)]
def q20 : LC := .join [0, 3] (.block 0 (.loop [(.t 0), (.c (.str []))] q20_1)) q20_2
def l20 : LF := ⟨22, 1, [], [.t 0], q20, false⟩
theorem t20 : treeOf Tryd.prog Tryd.f20 (fun _ => 0) (fun d => if d = 0 then [0, 3] else []) false [] 1 100000 q20 = some l20 := by kernel_rfl
/-! strconv.AppendInt -/
def q21 : LC := .op (.call true false 30 [(.t 0), (.t 1), (.t 2)]) none <| .ret [(.t 0)]
def l21 : LF := ⟨11, 3, [], [.t 0], q21, false⟩
theorem t21 : treeOf Tryd.prog Tryd.f21 (fun d => if d = 10 then 3 else 0) (fun _ => []) false [] 3 100000 q21 = some l21 := by kernel_rfl
/-! bytes.Cut -/
def q22 : LC := .op (.call false false 31 [(.t 0), (.t 1)]) none <| .op (.bin .geq (.t 0) (.c (.int .i64 0))) none <| .cond (.t 0) (.op (.cut 1 (.t 2) none (some (.t 1))) none <| .op (.len false (.t 4)) none <| .op (.bin .add (.t 3) (.t 0)) none <| .op (.cut 1 (.t 5) (some (.t 0)) none) none <| .ret [(.t 3), (.t 0), (.c (.bool true))]) (.ret [(.t 2), (.c (.sl .nil 0 0 [])), (.c (.bool false))])
def l22 : LF := ⟨23, 2, [], [.t 0, .t 1, .t 2], q22, false⟩
theorem t22 : treeOf Tryd.prog Tryd.f22 (fun _ => 0) (fun _ => []) false [] 2 100000 q22 = some l22 := by kernel_rfl
-- 23 strconv.Atoi: told otherwise
/-! bytes.Equal -/
def q24 : LC := .op (.b2s (.t 0)) none <| .op (.b2s (.t 2)) none <| .op (.bin .eql (.t 1) (.t 0)) none <| .ret [(.t 0)]
def l24 : LF := ⟨10, 2, [], [.t 0], q24, false⟩
theorem t24 : treeOf Tryd.prog Tryd.f24 (fun _ => 0) (fun _ => []) false [] 2 100000 q24 = some l24 := by kernel_rfl
/-! wherry/wherryref11.end -/
def q25_0 : LC := .op (.bin .add (.t 1) (.c (.int .i64 1))) none <| .nx [(.t 1), (.t 0)]
def q25_1 : LC := .op (.bin .add (.t 1) (.c (.int .i64 1))) none <| .op (.len false (.t 1)) none <| .op (.bin .lss (.t 1) (.t 0)) none <| .cond (.t 0) (.join [0, 5] (.block 1 (.op (.iad 1 (.t 3) (.t 4)) none <| .op (.load false 1 (.t 0)) none <| .op (.bin .eql (.t 0) (.c (.int .u8 13))) none <| .sel 6 (.t 0) true (.op (.bin .add (.t 7) (.c (.int .i64 1))) none <| .op (.iad 1 (.t 7) (.t 0)) none <| .op (.load false 1 (.t 0)) none <| .op (.bin .eql (.t 0) (.c (.int .u8 10))) none <| .nx [(.t 0)]) (.c (.bool false)) <| .cond (.t 0) (.ret [(.t 8)]) (.nx [(.t 7), (.t 8)]))) q25_0) (.exit 0 [])
def q25_2 : LC := .ret [(.c (.int .i64 (-1)))]
def q25 : LC := .join [] (.block 0 (.loop [(.t 0), (.t 1)] q25_1)) q25_2
def l25 : LF := ⟨28, 2, [], [.t 0], q25, false⟩
theorem t25 : treeOf Tryd.prog Tryd.f25 (fun _ => 0) (fun d => if d = 0 then [0, 5] else []) false [] 2 100000 q25 = some l25 := by kernel_rfl
/-! wherry/wherryref11.number -/
def q26_0 : LC := .op (.bin .add (.t 2) (.c (.int .i64 1))) none <| .nx [(.t 1), (.t 2), (.t 0)]
def q26_1 : LC := .op (.len true (.t 0)) none <| .op (.bin .lss (.t 3) (.t 0)) none <| .cond (.t 0) (.join [0, 5, 6] (.block 1 (.op (.idx (.t 2) (.t 4)) none <| .op (.call false false 34 [(.t 0)]) none <| .op (.un .not (.t 0)) none <| .cond (.t 0) (.ret [(.c (.int .i64 (-1)))]) (.op (.bin .mul (.c (.int .i64 10)) (.t 6)) none <| .op (.idx (.t 6) (.t 8)) none <| .op (.bin .sub (.t 0) (.c (.int .u8 48))) none <| .op (.cvt .i64 (.t 0)) none <| .op (.bin .add (.t 3) (.t 0)) none <| .nx [(.t 10), (.t 0), (.t 12)]))) q26_0) (.exit 0 [(.t 3)])
def q26_2 : LC := .ret [(.t 0)]
def q26 : LC := .op (.len true (.t 0)) none <| .op (.call false false 27 [(.t 0), (.c (.int .i64 1)), (.t 2)]) none <| .op (.un .not (.t 0)) none <| .sel 8 (.t 0) false (.op (.len true (.t 3)) none <| .op (.bin .gtr (.t 0) (.c (.int .i64 1))) none <| .sel 3 (.t 0) true (.op (.idx (.t 5) (.c (.int .i64 0))) none <| .op (.bin .eql (.t 0) (.c (.int .u8 48))) none <| .nx [(.t 0)]) (.c (.bool false)) <| .nx [(.t 0)]) (.c (.bool true)) <| .cond (.t 0) (.ret [(.c (.int .i64 (-1)))]) (.join [5] (.block 0 (.loop [(.t 4), (.c (.int .i64 0)), (.c (.int .i64 0))] q26_1)) q26_2)
def l26 : LF := ⟨42, 2, [], [.t 0], q26, false⟩
theorem t26 : treeOf Tryd.prog Tryd.f26 (fun _ => 0) (fun d => if d = 0 then [0, 5, 6] else []) false [] 2 100000 q26 = some l26 := by kernel_rfl
/-! wherry/wherryref11.in -/
def q27 : LC := .op (.bin .geq (.t 0) (.t 1)) none <| .sel 3 (.t 0) true (.op (.bin .leq (.t 1) (.t 3)) none <| .nx [(.t 0)]) (.c (.bool false)) <| .ret [(.t 0)]
def l27 : LF := ⟨15, 3, [], [.t 0], q27, false⟩
theorem t27 : treeOf Tryd.prog Tryd.f27 (fun _ => 0) (fun _ => []) false [] 3 100000 q27 = some l27 := by kernel_rfl
/-! wherry/answer.code -/
def q28 : LC := .op (.bin .geq (.t 0) (.c (.int .i64 200))) none <| .sel 2 (.t 0) true (.op (.bin .leq (.t 1) (.c (.int .i64 559))) none <| .nx [(.t 0)]) (.c (.bool false)) <| .sel 4 (.t 0) true (.op (.bin .quo (.t 2) (.c (.int .i64 10))) none <| .op (.bin .rem (.t 0) (.c (.int .i64 10))) none <| .op (.bin .leq (.t 0) (.c (.int .i64 5))) none <| .nx [(.t 0)]) (.c (.bool false)) <| .ret [(.t 0)]
def l28 : LF := ⟨15, 1, [], [.t 0], q28, false⟩
theorem t28 : treeOf Tryd.prog Tryd.f28 (fun _ => 0) (fun _ => []) false [] 1 100000 q28 = some l28 := by kernel_rfl
/-! wherry/answer.plain -/
def q29_0 : LC := .op (.bin .add (.t 2) (.c (.int .i64 1))) none <| .nx [(.t 1), (.t 2), (.t 0)]
def q29_1 : LC := .op (.bin .lss (.t 2) (.t 1)) none <| .cond (.t 0) (.join [0, 5, 6] (.block 1 (.op (.idx (.t 1) (.t 3)) none <| .op (.bin .lss (.t 0) (.c (.int .u8 32))) none <| .sel 4 (.t 0) false (.op (.idx (.t 3) (.t 5)) none <| .op (.bin .gtr (.t 0) (.c (.int .u8 126))) none <| .nx [(.t 0)]) (.c (.bool true)) <| .cond (.t 0) (.ret [(.c (.bool false))]) (.nx [(.t 4), (.t 5), (.t 6)]))) q29_0) (.exit 0 [(.t 1)])
def q29_2 : LC := .op (.len true (.t 0)) none <| .op (.bin .leq (.t 0) (.c (.int .i64 200))) none <| .ret [(.t 0)]
def q29 : LC := .op (.len true (.t 0)) none <| .join [0] (.block 0 (.loop [(.t 1), (.t 0), (.c (.int .i64 0))] q29_1)) q29_2
def l29 : LF := ⟨23, 1, [], [.t 0], q29, false⟩
theorem t29 : treeOf Tryd.prog Tryd.f29 (fun _ => 0) (fun d => if d = 0 then [0, 5, 6] else []) false [] 1 100000 q29 = some l29 := by kernel_rfl
/-! internal/strconv.AppendInt -/
def q30_0 : LC := .op (.call true false 35 [(.t 0), (.t 2), (.t 1)]) none <| .ret [(.t 0)]
def q30 : LC := .op (.cvt .u64 (.t 1)) none <| .op (.bin .lss (.t 2) (.c (.int .i64 0))) none <| .join [0, 2, 7] (.cond (.t 0) (.op (.lit false 1 1 [.int .u8 0] [(0, 1, (.c (.int .u8 45)))]) none <| .op (.app 1 1 (.t 3) (.t 0)) none <| .op (.un .neg (.t 3)) none <| .nx [(.t 1), (.t 7), (.t 0)]) (.nx [(.t 2), (.t 4), (.t 1)])) q30_0
def l30 : LF := ⟨21, 3, [], [.t 0], q30, false⟩
theorem t30 : treeOf Tryd.prog Tryd.f30 (fun d => if d = 0 then 2 else if d = 12 then 2 else if d = 14 then 2 else if d = 20 then 3 else 0) (fun _ => []) false [] 3 100000 q30 = some l30 := by kernel_rfl
-- 31 bytes.Index: told otherwise
/-! wherry/wherryref11.digit -/
def q34 : LC := .op (.bin .geq (.t 0) (.c (.int .u8 48))) none <| .sel 2 (.t 0) true (.op (.bin .leq (.t 1) (.c (.int .u8 57))) none <| .nx [(.t 0)]) (.c (.bool false)) <| .ret [(.t 0)]
def l34 : LF := ⟨9, 1, [], [.t 0], q34, false⟩
theorem t34 : treeOf Tryd.prog Tryd.f34 (fun _ => 0) (fun _ => []) false [] 1 100000 q34 = some l34 := by kernel_rfl
-- 35 internal/strconv.AppendUint: told otherwise
def lt : Nat → Option LF
  | 3 => some l3
  | 4 => some l4
  | 5 => some l5
  | 6 => some l6
  | 7 => some l7
  | 8 => some l8
  | 9 => some l9
  | 10 => some l10
  | 11 => some l11
  | 12 => some l12
  | 13 => some l13
  | 14 => some l14
  | 15 => some l15
  | 16 => some l16
  | 17 => some l17
  | 18 => some l18
  | 19 => some l19
  | 20 => some l20
  | 21 => some l21
  | 22 => some l22
  | 24 => some l24
  | 25 => some l25
  | 26 => some l26
  | 27 => some l27
  | 28 => some l28
  | 29 => some l29
  | 30 => some l30
  | 34 => some l34
  | _ => none
theorem lt_ok : TreeOk Tryd.prog lt := by
  intro f F h
  unfold lt at h
  split at h
  · cases h; exact told_of t3 Tryd.func3 (by kernel_rfl)
  · cases h; exact told_of t4 Tryd.func4 (by kernel_rfl)
  · cases h; exact told_of t5 Tryd.func5 (by kernel_rfl)
  · cases h; exact told_of t6 Tryd.func6 (by kernel_rfl)
  · cases h; exact told_of t7 Tryd.func7 (by kernel_rfl)
  · cases h; exact told_of t8 Tryd.func8 (by kernel_rfl)
  · cases h; exact told_of t9 Tryd.func9 (by kernel_rfl)
  · cases h; exact told_of t10 Tryd.func10 (by kernel_rfl)
  · cases h; exact told_of t11 Tryd.func11 (by kernel_rfl)
  · cases h; exact told_of t12 Tryd.func12 (by kernel_rfl)
  · cases h; exact told_of t13 Tryd.func13 (by kernel_rfl)
  · cases h; exact told_of t14 Tryd.func14 (by kernel_rfl)
  · cases h; exact told_of t15 Tryd.func15 (by kernel_rfl)
  · cases h; exact told_of t16 Tryd.func16 (by kernel_rfl)
  · cases h; exact told_of t17 Tryd.func17 (by kernel_rfl)
  · cases h; exact told_of t18 Tryd.func18 (by kernel_rfl)
  · cases h; exact told_of t19 Tryd.func19 (by kernel_rfl)
  · cases h; exact told_of t20 Tryd.func20 (by kernel_rfl)
  · cases h; exact told_of t21 Tryd.func21 (by kernel_rfl)
  · cases h; exact told_of t22 Tryd.func22 (by kernel_rfl)
  · cases h; exact told_of t24 Tryd.func24 (by kernel_rfl)
  · cases h; exact told_of t25 Tryd.func25 (by kernel_rfl)
  · cases h; exact told_of t26 Tryd.func26 (by kernel_rfl)
  · cases h; exact told_of t27 Tryd.func27 (by kernel_rfl)
  · cases h; exact told_of t28 Tryd.func28 (by kernel_rfl)
  · cases h; exact told_of t29 Tryd.func29 (by kernel_rfl)
  · cases h; exact told_of t30 Tryd.func30 (by kernel_rfl)
  · cases h; exact told_of t34 Tryd.func34 (by kernel_rfl)
  · cases h
end Go.Proofs.YtmajbgmjlggcbaaDoor.Tab
