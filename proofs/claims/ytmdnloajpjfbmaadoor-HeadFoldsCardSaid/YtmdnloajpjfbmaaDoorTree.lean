/- The functions that these laws reach, as trees: printed by this session's own program. -/
import Derived.Test.YtmdnloajpjfbmaaDoorEv26
import Derived.Test.YtmdnloajpjfbmaaDoorProg
import Derived.KernelRfl
namespace Go.Proofs.YtmdnloajpjfbmaaDoor.Tab
set_option linter.all false
open Go Go.Proofs.YtmdnloajpjfbmaaDoor.Ev
-- LAW wherry/wherrylaw15.HeadFields 3 [22, 22, 23] [4]
-- LAW wherry/wherrylaw15.HeadFolds 4 [22, 23] [4]
-- LAW wherry/wherrylaw15.HeadEnds 5 [23, 23] [4]
-- LAW wherry/wherrylaw15.HeadHops 6 [3, 38, 3] [4]
-- LAW wherry/wherrylaw15.HeadExact 7 [23, 9, 9, 3] [4]
-- LAW wherry/wherrylaw15.HeadStamped 8 [23, 9, 9, 3] [4]
/-! wherry/wherrylaw15.HeadFields -/
def q3_0 : LC := .op (.bin .add (.t 6) (.c (.int .i64 1))) none <| .nx [(.t 1), (.t 2), (.t 3), (.t 4), (.t 5), (.t 6), (.t 0)]
def q3_1 : LC := .op (.bin .lss (.t 6) (.t 3)) none <| .cond (.t 0) (.join [0, 1, 2, 7, 8, 9, 10] (.block 1 (.op (.iad 1 (.t 1) (.t 7)) none <| .op (.load false 1 (.t 0)) none <| .op (.len true (.t 0)) none <| .op (.bin .gtr (.t 0) (.c (.int .i64 30))) none <| .sel 6 (.t 0) false (.op (.iad 1 (.t 6) (.t 11)) none <| .op (.load false 1 (.t 0)) none <| .op (.len true (.t 0)) none <| .op (.bin .gtr (.t 0) (.c (.int .i64 60))) none <| .nx [(.t 0)]) (.c (.bool true)) <| .sel 6 (.t 0) false (.op (.iad 1 (.t 6) (.t 12)) none <| .op (.load false 1 (.t 0)) none <| .op (.call false false 10 [(.t 0)]) none <| .op (.un .not (.t 0)) none <| .nx [(.t 0)]) (.c (.bool true)) <| .sel 6 (.t 0) false (.op (.iad 1 (.t 8) (.t 13)) none <| .op (.load false 1 (.t 0)) none <| .op (.call false false 11 [(.t 0)]) none <| .op (.un .not (.t 0)) none <| .nx [(.t 0)]) (.c (.bool true)) <| .cond (.t 0) (.exit 1 [(.t 8), (.t 9), (.t 10), (.t 11), (.t 12), (.t 13), (.t 14)]) (.op (.iad 1 (.t 8) (.t 14)) none <| .op (.load false 1 (.t 0)) none <| .op (.iad 1 (.t 11) (.t 16)) none <| .op (.load false 1 (.t 0)) none <| .op (.build [.str [], .str []] [(0, 1, (.t 2)), (1, 1, (.t 0))]) none <| .op (.lit false 2 1 [.str [], .str []] [(0, 2, (.t 0))]) none <| .op (.app 2 32 (.t 19) (.t 0)) none <| .op (.iad 1 (.t 15) (.t 21)) none <| .op (.load false 1 (.t 0)) none <| .op (.bin .add (.t 0) (.c (.str [58]))) none <| .op (.iad 1 (.t 19) (.t 24)) none <| .op (.load false 1 (.t 0)) none <| .op (.bin .add (.t 2) (.t 0)) none <| .op (.bin .add (.t 0) (.c (.str [13, 10]))) none <| .op (.app 1 1 (.t 26) (.t 0)) none <| .nx [(.t 23), (.t 24), (.t 25), (.t 26), (.t 0), (.t 8), (.t 29)]))) q3_0) (.exit 0 [(.t 3), (.t 5), (.t 6)])
def q3_2 : LC := .op (.len false (.t 1)) none <| .op (.bin .add (.t 0) (.c (.int .i64 2))) none <| .op (.lit false 1 2 [.int .u8 0, .int .u8 0] [(0, 1, (.c (.int .u8 13))), (1, 1, (.c (.int .u8 10)))]) none <| .op (.app 1 1 (.t 4) (.t 0)) none <| .op (.app 1 1 (.t 0) (.t 4)) none <| .op (.call false false 12 [(.t 0)]) none <| .op (.ext (.t 0) 0) none <| .op (.ext (.t 1) 1) none <| .op (.ext (.t 2) 2) none <| .op (.bin .eql (.t 0) (.c (.int .i64 0))) none <| .sel 3 (.t 0) true (.op (.bin .eql (.t 2) (.t 8)) none <| .nx [(.t 0)]) (.c (.bool false)) <| .sel 3 (.t 0) true (.op (.call false false 13 [(.t 4), (.t 13)]) none <| .nx [(.t 0)]) (.c (.bool false)) <| .sel 1 (.t 0) true (.op (.call false false 14 []) none <| .nx [(.t 0)]) (.c (.bool false)) <| .ret [(.t 0)]
def q3 : LC := .op (.len false (.t 0)) none <| .op (.len false (.t 2)) none <| .op (.min (.t 1) (.t 0)) none <| .op (.bin .gtr (.t 0) (.c (.int .i64 20))) none <| .sel 3 (.t 0) false (.op (.len false (.t 6)) none <| .op (.bin .gtr (.t 0) (.c (.int .i64 2000))) none <| .nx [(.t 0)]) (.c (.bool true)) <| .sel 3 (.t 0) false (.op (.call false false 9 [(.t 7)]) none <| .op (.un .not (.t 0)) none <| .nx [(.t 0)]) (.c (.bool true)) <| .cond (.t 0) (.ret [(.c (.bool true))]) (.join [2, 8, 9] (.block 0 (.loop [(.t 6), (.t 7), (.t 8), (.t 3), (.c (.sl .nil 0 0 [])), (.c (.sl .nil 0 0 [])), (.c (.int .i64 0))] q3_1)) q3_2)
def l3 : LF := ⟨121, 3, [], [.t 0], q3, false⟩
theorem t3 : treeOf Tryd.prog Tryd.f3 (fun d => if d = 8 then 2 else if d = 9 then 2 else if d = 67 then 2 else if d = 78 then 2 else if d = 79 then 2 else if d = 91 then 2 else if d = 95 then 2 else if d = 97 then 2 else if d = 99 then 2 else 0) (fun d => if d = 0 then [0, 1, 2, 7, 8, 9, 10] else []) false [] 3 100000 q3 = some l3 := by kernel_rfl
/-! wherry/wherrylaw15.HeadFolds -/
def q4_0 : LC := .op (.bin .add (.t 4) (.c (.int .i64 1))) none <| .nx [(.t 1), (.t 2), (.t 3), (.t 4), (.t 0)]
def q4_1 : LC := .op (.len false (.t 0)) none <| .op (.bin .lss (.t 5) (.t 0)) none <| .cond (.t 0) (.join [0, 1, 5, 6, 7] (.block 1 (.op (.iad 1 (.t 2) (.t 6)) none <| .op (.load false 1 (.t 0)) none <| .op (.len true (.t 0)) none <| .op (.bin .gtr (.t 0) (.c (.int .i64 60))) none <| .sel 6 (.t 0) false (.op (.iad 1 (.t 6) (.t 10)) none <| .op (.load false 1 (.t 0)) none <| .op (.call false false 11 [(.t 0)]) none <| .op (.un .not (.t 0)) none <| .nx [(.t 0)]) (.c (.bool true)) <| .cond (.t 0) (.ret [(.c (.bool true))]) (.op (.iad 1 (.t 7) (.t 11)) none <| .op (.load false 1 (.t 0)) none <| .op (.bin .add (.c (.str [9])) (.t 0)) none <| .op (.bin .add (.t 0) (.c (.str [13, 10]))) none <| .op (.app 1 1 (.t 13) (.t 0)) none <| .op (.bin .add (.t 15) (.c (.str [9]))) none <| .op (.iad 1 (.t 13) (.t 17)) none <| .op (.load false 1 (.t 0)) none <| .op (.bin .add (.t 2) (.t 0)) none <| .nx [(.t 16), (.t 17), (.t 4), (.t 0), (.t 20)]))) q4_0) (.exit 0 [(.t 3), (.t 4), (.t 5)])
def q4_2 : LC := .op (.len false (.t 1)) none <| .op (.app 1 1 (.t 2) (.c (.str [110, 111, 32, 102, 105, 101, 108, 100, 13, 10]))) none <| .op (.app 1 1 (.t 0) (.t 2)) none <| .op (.call false false 12 [(.t 0)]) none <| .op (.ext (.t 0) 0) none <| .op (.ext (.t 1) 1) none <| .op (.ext (.t 2) 2) none <| .op (.bin .eql (.t 0) (.c (.int .i64 0))) none <| .sel 3 (.t 0) true (.op (.bin .eql (.t 2) (.t 7)) none <| .nx [(.t 0)]) (.c (.bool false)) <| .sel 5 (.t 0) true (.op (.build [.str [], .str []] [(0, 1, (.c (.str [83, 117, 98, 106, 101, 99, 116]))), (1, 1, (.t 11))]) none <| .op (.lit false 2 1 [.str [], .str []] [(0, 2, (.t 0))]) none <| .op (.call false false 13 [(.t 6), (.t 0)]) none <| .nx [(.t 0)]) (.c (.bool false)) <| .sel 1 (.t 0) true (.op (.call false false 14 []) none <| .nx [(.t 0)]) (.c (.bool false)) <| .ret [(.t 0)]
def q4 : LC := .op (.len false (.t 0)) none <| .op (.bin .gtr (.t 0) (.c (.int .i64 10))) none <| .sel 3 (.t 0) false (.op (.len false (.t 3)) none <| .op (.bin .gtr (.t 0) (.c (.int .i64 2000))) none <| .nx [(.t 0)]) (.c (.bool true)) <| .sel 3 (.t 0) false (.op (.call false false 9 [(.t 4)]) none <| .op (.un .not (.t 0)) none <| .nx [(.t 0)]) (.c (.bool true)) <| .cond (.t 0) (.ret [(.c (.bool true))]) (.op (.lit true 1 12 [.int .u8 0, .int .u8 0, .int .u8 0, .int .u8 0, .int .u8 0, .int .u8 0, .int .u8 0, .int .u8 0, .int .u8 0, .int .u8 0, .int .u8 0, .int .u8 0] [(0, 1, (.c (.int .u8 83))), (1, 1, (.c (.int .u8 117))), (2, 1, (.c (.int .u8 98))), (3, 1, (.c (.int .u8 106))), (4, 1, (.c (.int .u8 101))), (5, 1, (.c (.int .u8 99))), (6, 1, (.c (.int .u8 116))), (7, 1, (.c (.int .u8 58))), (8, 1, (.c (.int .u8 32))), (9, 1, (.c (.int .u8 97))), (10, 1, (.c (.int .u8 13))), (11, 1, (.c (.int .u8 10)))]) none <| .op (.frz (.t 0)) none <| .join [1, 5, 6] (.block 0 (.loop [(.t 6), (.t 7), (.t 0), (.c (.str [32, 97])), (.c (.int .i64 0))] q4_1)) q4_2)
def l4 : LF := ⟨91, 2, [], [.t 0], q4, false⟩
theorem t4 : treeOf Tryd.prog Tryd.f4 (fun d => if d = 5 then 2 else if d = 25 then 2 else if d = 26 then 2 else if d = 47 then 2 else if d = 54 then 2 else if d = 64 then 2 else if d = 65 then 2 else if d = 67 then 2 else 0) (fun d => if d = 0 then [0, 1, 5, 6, 7] else []) false [] 2 100000 q4 = some l4 := by kernel_rfl
/-! wherry/wherrylaw15.HeadEnds -/
def q5 : LC := .op (.len false (.t 0)) none <| .op (.bin .gtr (.t 0) (.c (.int .i64 2000))) none <| .sel 3 (.t 0) false (.op (.len false (.t 3)) none <| .op (.bin .gtr (.t 0) (.c (.int .i64 2000))) none <| .nx [(.t 0)]) (.c (.bool true)) <| .sel 3 (.t 0) false (.op (.call false false 9 [(.t 3)]) none <| .op (.un .not (.t 0)) none <| .nx [(.t 0)]) (.c (.bool true)) <| .sel 3 (.t 0) false (.op (.call false false 9 [(.t 5)]) none <| .op (.un .not (.t 0)) none <| .nx [(.t 0)]) (.c (.bool true)) <| .cond (.t 0) (.ret [(.c (.bool true))]) (.op (.call false false 12 [(.t 5)]) none <| .op (.ext (.t 0) 0) none <| .op (.ext (.t 1) 1) none <| .op (.ext (.t 2) 2) none <| .op (.bin .neq (.t 0) (.c (.int .i64 0))) none <| .sel 2 (.t 0) false (.op (.bin .lss (.t 2) (.c (.int .i64 0))) none <| .nx [(.t 0)]) (.c (.bool true)) <| .sel 4 (.t 0) false (.op (.len false (.t 11)) none <| .op (.bin .gtr (.t 4) (.t 0)) none <| .nx [(.t 0)]) (.c (.bool true)) <| .cond (.t 0) (.ret [(.c (.bool false))]) (.op (.cut 1 (.t 12) none (some (.t 4))) none <| .op (.call false true 15 [(.t 0)]) none <| .op (.lit false 1 2 [.int .u8 0, .int .u8 0] [(0, 1, (.c (.int .u8 13))), (1, 1, (.c (.int .u8 10)))]) none <| .op (.app 1 1 (.t 1) (.t 0)) none <| .op (.app 1 1 (.t 0) (.t 17)) none <| .op (.call false false 12 [(.t 0)]) none <| .op (.ext (.t 0) 0) none <| .op (.ext (.t 1) 1) none <| .op (.ext (.t 2) 2) none <| .op (.bin .neq (.t 0) (.c (.int .i64 0))) none <| .sel 23 (.t 0) false (.op (.bin .geq (.t 14) (.c (.int .i64 2))) none <| .sel 7 (.t 0) true (.op (.bin .sub (.t 15) (.c (.int .i64 2))) none <| .op (.cut 1 (.t 24) (some (.t 0)) (some (.t 16))) none <| .op (.lit false 1 2 [.int .u8 0, .int .u8 0] [(0, 1, (.c (.int .u8 13))), (1, 1, (.c (.int .u8 10)))]) none <| .op (.call false false 16 [(.t 1), (.t 0)]) none <| .nx [(.t 0)]) (.c (.bool false)) <| .sel 10 (.t 0) true (.op (.bin .eql (.t 16) (.c (.int .i64 2))) none <| .sel 6 (.t 0) false (.op (.bin .sub (.t 17) (.c (.int .i64 3))) none <| .op (.iad 1 (.t 26) (.t 0)) none <| .op (.load false 1 (.t 0)) none <| .op (.bin .eql (.t 0) (.c (.int .u8 10))) none <| .nx [(.t 0)]) (.c (.bool true)) <| .nx [(.t 0)]) (.c (.bool false)) <| .nx [(.t 0)]) (.c (.bool true)) <| .cond (.t 0) (.op (.bin .eql (.t 2) (.c (.int .i64 0))) none <| .sel 3 (.t 0) true (.op (.call false false 13 [(.t 17), (.t 5)]) none <| .nx [(.t 0)]) (.c (.bool false)) <| .sel 1 (.t 0) true (.op (.call false false 14 []) none <| .nx [(.t 0)]) (.c (.bool false)) <| .ret [(.t 0)]) (.op (.bin .add (.t 15) (.c (.int .i64 2))) none <| .op (.bin .eql (.t 4) (.t 0)) none <| .sel 3 (.t 0) true (.op (.call false false 13 [(.t 18), (.t 6)]) none <| .nx [(.t 0)]) (.c (.bool false)) <| .sel 1 (.t 0) true (.op (.call false false 14 []) none <| .nx [(.t 0)]) (.c (.bool false)) <| .ret [(.t 0)])))
def l5 : LF := ⟨111, 2, [], [.t 0], q5, false⟩
theorem t5 : treeOf Tryd.prog Tryd.f5 (fun d => if d = 51 then 2 else if d = 53 then 2 else 0) (fun _ => []) false [] 2 100000 q5 = some l5 := by kernel_rfl
/-! wherry/wherrylaw15.HeadHops -/
def q6_0 : LC := .op (.bin .add (.t 4) (.c (.str [58, 32, 120, 13, 10, 88, 58, 32, 121, 13, 10]))) none <| .op (.app 1 1 (.t 3) (.t 0)) none <| .nx [(.t 2), (.t 3), (.t 0), (.t 5)]
def q6_1 : LC := .op (.bin .add (.t 3) (.c (.int .i64 1))) none <| .nx [(.t 1), (.t 2), (.t 3), (.t 0)]
def q6_2 : LC := .op (.bin .lss (.t 3) (.t 0)) none <| .cond (.t 0) (.join [0, 1, 7, 8] (.block 1 (.op (.len false (.t 2)) none <| .op (.bin .lss (.t 5) (.t 0)) none <| .sel 4 (.t 0) true (.op (.iad 1 (.t 4) (.t 6)) none <| .op (.load false 1 (.t 0)) none <| .nx [(.t 0)]) (.c (.bool false)) <| .join [0, 1, 7, 8, 9] (.cond (.t 0) (.nx [(.t 4), (.t 5), (.t 6), (.t 7), (.c (.str [114, 69, 99, 69, 73, 86, 69, 68]))]) (.nx [(.t 4), (.t 5), (.t 6), (.t 7), (.c (.str [82, 101, 99, 101, 105, 118, 101, 100]))])) q6_0)) q6_1) (.exit 0 [(.t 1), (.t 3)])
def q6_3 : LC := .op (.app 1 1 (.t 1) (.c (.str [13, 10, 82, 101, 99, 101, 105, 118, 101, 100, 58, 32, 122, 13, 10]))) none <| .op (.call false false 17 [(.t 0)]) none <| .op (.ext (.t 0) 0) none <| .op (.ext (.t 1) 1) none <| .op (.call false false 18 [(.c (.str [97, 32, 98])), (.c (.str [120])), (.c (.int .i64 1))]) none <| .op (.ext (.t 0) 0) none <| .op (.ext (.t 1) 1) none <| .op (.call false false 18 [(.c (.str [97])), (.c (.str [120])), (.c (.int .i64 1099511627777))]) none <| .op (.ext (.t 0) 0) none <| .op (.ext (.t 1) 1) none <| .op (.call false false 18 [(.c (.str [97])), (.c (.str [120])), (.c (.int .i64 1099511627776))]) none <| .op (.ext (.t 0) 0) none <| .op (.ext (.t 1) 1) none <| .op (.call false false 18 [(.c (.str [97])), (.c (.str [120])), (.c (.int .i64 (-1)))]) none <| .op (.ext (.t 0) 0) none <| .op (.ext (.t 1) 1) none <| .op (.bin .eql (.t 12) (.c (.int .i64 0))) none <| .sel 3 (.t 0) true (.op (.bin .eql (.t 14) (.t 17)) none <| .nx [(.t 0)]) (.c (.bool false)) <| .sel 2 (.t 0) true (.op (.bin .eql (.t 11) (.c (.int .i64 5))) none <| .nx [(.t 0)]) (.c (.bool false)) <| .sel 2 (.t 0) true (.op (.bin .eql (.t 9) (.c (.int .i64 1))) none <| .nx [(.t 0)]) (.c (.bool false)) <| .sel 2 (.t 0) true (.op (.bin .eql (.t 7) (.c (.int .i64 0))) none <| .nx [(.t 0)]) (.c (.bool false)) <| .sel 2 (.t 0) true (.op (.bin .eql (.t 5) (.c (.int .i64 1))) none <| .nx [(.t 0)]) (.c (.bool false)) <| .sel 3 (.t 0) true (.op (.b2s (.t 10)) none <| .op (.bin .eql (.t 0) (.c (.str [82, 101, 99, 101, 105, 118, 101, 100, 58, 32, 102, 114, 111, 109, 32, 97, 32, 98, 121, 32, 120, 32, 119, 105, 116, 104, 32, 69, 83, 77, 84, 80, 59, 32, 49, 48, 57, 57, 53, 49, 49, 54, 50, 55, 55, 55, 54, 13, 10]))) none <| .nx [(.t 0)]) (.c (.bool false)) <| .sel 1 (.t 0) true (.op (.call false false 14 []) none <| .nx [(.t 0)]) (.c (.bool false)) <| .ret [(.t 0)]
def q6 : LC := .op (.cvt .u64 (.t 0)) none <| .op (.bin .rem (.t 0) (.c (.int .u64 12))) none <| .op (.cvt .i64 (.t 0)) none <| .join [0, 7] (.block 0 (.loop [(.t 0), (.t 4), (.c (.sl .nil 0 0 [])), (.c (.int .i64 0))] q6_2)) q6_3
def l6 : LF := ⟨96, 3, [], [.t 0], q6, false⟩
theorem t6 : treeOf Tryd.prog Tryd.f6 (fun d => if d = 7 then 2 else if d = 39 then 2 else if d = 42 then 2 else if d = 44 then 2 else 0) (fun d => if d = 0 then [0, 1, 7, 8] else []) false [] 3 100000 q6 = some l6 := by kernel_rfl
/-! wherry/wherrylaw15.HeadExact -/
def q7_0 : LC := .op (.bin .neq (.t 11) (.t 14)) none <| .sel 11 (.t 0) false (.op (.bin .eql (.t 15) (.c (.int .i64 0))) none <| .sel 7 (.t 0) true (.op (.call false false 21 [(.t 3), (.t 4), (.t 5)]) none <| .op (.call false false 16 [(.t 13), (.t 0)]) none <| .op (.un .not (.t 0)) none <| .nx [(.t 0)]) (.c (.bool false)) <| .nx [(.t 0)]) (.c (.bool true)) <| .sel 7 (.t 0) false (.op (.bin .neq (.t 16) (.c (.int .i64 0))) none <| .sel 3 (.t 0) true (.op (.len false (.t 13)) none <| .op (.bin .gtr (.t 0) (.c (.int .i64 0))) none <| .nx [(.t 0)]) (.c (.bool false)) <| .nx [(.t 0)]) (.c (.bool true)) <| .sel 4 (.t 0) false (.op (.call false false 16 [(.t 7), (.t 3)]) none <| .op (.un .not (.t 0)) none <| .nx [(.t 0)]) (.c (.bool true)) <| .cond (.t 0) (.ret [(.c (.bool false))]) (.op (.call false false 9 [(.t 4)]) none <| .op (.un .not (.t 0)) none <| .cond (.t 0) (.op (.bin .eql (.t 13) (.c (.int .i64 5))) none <| .sel 2 (.t 0) true (.op (.bin .eql (.t 16) (.c (.int .i64 5))) none <| .nx [(.t 0)]) (.c (.bool false)) <| .sel 2 (.t 0) true (.op (.bin .eql (.t 21) (.c (.int .i64 5))) none <| .nx [(.t 0)]) (.c (.bool false)) <| .sel 10 (.t 0) true (.op (.len false (.t 14)) none <| .op (.bin .add (.t 0) (.t 16)) none <| .op (.bin .add (.t 0) (.t 19)) none <| .op (.len false (.t 24)) none <| .op (.bin .add (.t 1) (.t 0)) none <| .op (.bin .eql (.t 0) (.c (.int .i64 0))) none <| .nx [(.t 0)]) (.c (.bool false)) <| .sel 1 (.t 0) true (.op (.call false false 14 []) none <| .nx [(.t 0)]) (.c (.bool false)) <| .ret [(.t 0)]) (.op (.call false false 22 [(.t 6)]) none <| .op (.ext (.t 0) 0) none <| .op (.ext (.t 1) 1) none <| .op (.bin .neq (.t 16) (.c (.int .i64 0))) none <| .sel 2 (.t 0) false (.op (.bin .neq (.t 19) (.c (.int .i64 0))) none <| .nx [(.t 0)]) (.c (.bool true)) <| .sel 4 (.t 0) false (.op (.call false false 13 [(.t 16), (.t 3)]) none <| .op (.un .not (.t 0)) none <| .nx [(.t 0)]) (.c (.bool true)) <| .sel 3 (.t 0) false (.op (.bin .neq (.t 18) (.t 3)) none <| .nx [(.t 0)]) (.c (.bool true)) <| .sel 4 (.t 0) false (.op (.call false false 23 [(.t 13)]) none <| .op (.bin .neq (.t 22) (.t 0)) none <| .nx [(.t 0)]) (.c (.bool true)) <| .cond (.t 0) (.ret [(.c (.bool false))]) (.op (.bin .neq (.t 28) (.c (.int .i64 0))) none <| .cond (.t 0) (.op (.bin .eql (.t 28) (.t 29)) none <| .sel 3 (.t 0) true (.op (.len false (.t 28)) none <| .op (.bin .eql (.t 0) (.c (.int .i64 0))) none <| .nx [(.t 0)]) (.c (.bool false)) <| .sel 1 (.t 0) true (.op (.call false false 14 []) none <| .nx [(.t 0)]) (.c (.bool false)) <| .ret [(.t 0)]) (.op (.bin .eql (.t 28) (.c (.int .i64 0))) none <| .sel 6 (.t 0) true (.op (.call false true 15 [(.t 26)]) none <| .op (.app 1 1 (.t 0) (.t 17)) none <| .op (.call false false 16 [(.t 30), (.t 0)]) none <| .nx [(.t 0)]) (.c (.bool false)) <| .sel 1 (.t 0) true (.op (.call false false 14 []) none <| .nx [(.t 0)]) (.c (.bool false)) <| .ret [(.t 0)]))))
def q7 : LC := .op (.len false (.t 0)) none <| .op (.bin .gtr (.t 0) (.c (.int .i64 2000))) none <| .sel 6 (.t 0) false (.op (.len true (.t 3)) none <| .op (.len true (.t 5)) none <| .op (.bin .add (.t 1) (.t 0)) none <| .op (.bin .gtr (.t 0) (.c (.int .i64 800))) none <| .nx [(.t 0)]) (.c (.bool true)) <| .cond (.t 0) (.ret [(.c (.bool true))]) (.op (.call false false 15 [(.t 3)]) none <| .op (.call false false 12 [(.t 0)]) none <| .op (.ext (.t 0) 0) none <| .op (.ext (.t 1) 1) none <| .op (.ext (.t 2) 2) none <| .op (.call false false 17 [(.t 4)]) none <| .op (.ext (.t 0) 0) none <| .op (.ext (.t 1) 1) none <| .op (.call false false 18 [(.t 12), (.t 13), (.t 14)]) none <| .op (.ext (.t 0) 0) none <| .op (.ext (.t 1) 1) none <| .op (.call false false 19 [(.t 10), (.t 15), (.t 16), (.t 17)]) none <| .op (.ext (.t 0) 0) none <| .op (.ext (.t 1) 1) none <| .op (.call false false 20 [(.t 18)]) none <| .op (.un .not (.t 0)) none <| .sel 3 (.t 0) false (.op (.call false false 20 [(.t 21)]) none <| .op (.un .not (.t 0)) none <| .nx [(.t 0)]) (.c (.bool true)) <| .join [0, 1, 2, 3, 9, 10, 11, 12, 13, 14, 15, 16, 17, 18, 19] (.cond (.t 0) (.nx [(.t 20), (.t 21), (.t 22), (.t 23), (.t 16), (.t 14), (.t 13), (.t 12), (.t 10), (.t 9), (.t 7), (.t 6), (.t 4), (.t 3), (.c (.int .i64 5))]) (.op (.bin .lss (.t 23) (.c (.int .i64 0))) none <| .sel 2 (.t 0) false (.op (.bin .gtr (.t 24) (.c (.int .i64 1099511627776))) none <| .nx [(.t 0)]) (.c (.bool true)) <| .cond (.t 0) (.nx [(.t 22), (.t 23), (.t 24), (.t 25), (.t 18), (.t 16), (.t 15), (.t 14), (.t 12), (.t 11), (.t 9), (.t 8), (.t 6), (.t 5), (.c (.int .i64 1))]) (.nx [(.t 22), (.t 23), (.t 24), (.t 25), (.t 18), (.t 16), (.t 15), (.t 14), (.t 12), (.t 11), (.t 9), (.t 8), (.t 6), (.t 5), (.c (.int .i64 0))]))) q7_0)
def l7 : LF := ⟨188, 4, [], [.t 0], q7, false⟩
theorem t7 : treeOf Tryd.prog Tryd.f7 (fun d => if d = 180 then 2 else 0) (fun _ => []) false [] 4 100000 q7 = some l7 := by kernel_rfl
/-! wherry/wherrylaw15.HeadStamped -/
def q8 : LC := .op (.len false (.t 0)) none <| .op (.bin .gtr (.t 0) (.c (.int .i64 2000))) none <| .sel 6 (.t 0) false (.op (.len true (.t 3)) none <| .op (.len true (.t 5)) none <| .op (.bin .add (.t 1) (.t 0)) none <| .op (.bin .gtr (.t 0) (.c (.int .i64 800))) none <| .nx [(.t 0)]) (.c (.bool true)) <| .cond (.t 0) (.ret [(.c (.bool true))]) (.op (.call false false 19 [(.t 3), (.t 4), (.t 5), (.t 6)]) none <| .op (.ext (.t 0) 0) none <| .op (.ext (.t 1) 1) none <| .op (.bin .neq (.t 0) (.c (.int .i64 0))) none <| .cond (.t 0) (.op (.len false (.t 2)) none <| .op (.bin .eql (.t 0) (.c (.int .i64 0))) none <| .sel 1 (.t 0) true (.op (.call false false 14 []) none <| .nx [(.t 0)]) (.c (.bool false)) <| .ret [(.t 0)]) (.op (.call false false 12 [(.t 7)]) none <| .op (.ext (.t 0) 0) none <| .op (.ext (.t 1) 1) none <| .op (.ext (.t 2) 2) none <| .op (.call false false 12 [(.t 6)]) none <| .op (.ext (.t 0) 0) none <| .op (.ext (.t 1) 1) none <| .op (.ext (.t 2) 2) none <| .op (.call false false 17 [(.t 15)]) none <| .op (.ext (.t 0) 0) none <| .op (.ext (.t 1) 1) none <| .op (.call false false 17 [(.t 13)]) none <| .op (.ext (.t 0) 0) none <| .op (.ext (.t 1) 1) none <| .op (.bin .neq (.t 10) (.c (.int .i64 0))) none <| .sel 2 (.t 0) false (.op (.bin .neq (.t 7) (.c (.int .i64 0))) none <| .nx [(.t 0)]) (.c (.bool true)) <| .sel 2 (.t 0) false (.op (.bin .neq (.t 5) (.c (.int .i64 0))) none <| .nx [(.t 0)]) (.c (.bool true)) <| .sel 2 (.t 0) false (.op (.bin .neq (.t 3) (.c (.int .i64 0))) none <| .nx [(.t 0)]) (.c (.bool true)) <| .sel 3 (.t 0) false (.op (.len false (.t 12)) none <| .op (.bin .eql (.t 0) (.c (.int .i64 0))) none <| .nx [(.t 0)]) (.c (.bool true)) <| .sel 5 (.t 0) false (.op (.iad 2 (.t 13) (.c (.int .i64 0))) none <| .op (.fad 0 (.t 0)) none <| .op (.load false 1 (.t 0)) none <| .op (.bin .neq (.t 0) (.c (.str [82, 101, 99, 101, 105, 118, 101, 100]))) none <| .nx [(.t 0)]) (.c (.bool true)) <| .cond (.t 0) (.ret [(.c (.bool false))]) (.op (.len false (.t 27)) none <| .op (.bin .gtr (.t 0) (.c (.int .i64 0))) none <| .sel 10 (.t 0) true (.op (.iad 1 (.t 29) (.c (.int .i64 0))) none <| .op (.load false 1 (.t 0)) none <| .op (.bin .eql (.t 0) (.c (.int .u8 32))) none <| .sel 4 (.t 0) false (.op (.iad 1 (.t 32) (.c (.int .i64 0))) none <| .op (.load false 1 (.t 0)) none <| .op (.bin .eql (.t 0) (.c (.int .u8 9))) none <| .nx [(.t 0)]) (.c (.bool true)) <| .nx [(.t 0)]) (.c (.bool false)) <| .cond (.t 0) (.op (.call false false 14 []) none <| .ret [(.t 0)]) (.op (.bin .add (.t 13) (.c (.int .i64 1))) none <| .op (.bin .eql (.t 11) (.t 0)) none <| .sel 9 (.t 0) true (.op (.bin .sub (.t 18) (.t 22)) none <| .op (.len false (.t 28)) none <| .op (.len false (.t 34)) none <| .op (.bin .sub (.t 1) (.t 0)) none <| .op (.bin .eql (.t 3) (.t 0)) none <| .nx [(.t 0)]) (.c (.bool false)) <| .sel 4 (.t 0) true (.op (.cut 2 (.t 20) (some (.c (.int .i64 1))) none) none <| .op (.call false false 13 [(.t 0), (.t 25)]) none <| .nx [(.t 0)]) (.c (.bool false)) <| .sel 1 (.t 0) true (.op (.call false false 14 []) none <| .nx [(.t 0)]) (.c (.bool false)) <| .ret [(.t 0)]))))
def l8 : LF := ⟨136, 4, [], [.t 0], q8, false⟩
theorem t8 : treeOf Tryd.prog Tryd.f8 (fun _ => 0) (fun _ => []) false [] 4 100000 q8 = some l8 := by kernel_rfl
/-! wherry/wherryref11.Body -/
def q9_0 : LC := .op (.bin .add (.t 1) (.c (.int .i64 1))) none <| .nx [(.t 1), (.t 0)]
def q9_1 : LC := .op (.len false (.t 0)) none <| .op (.bin .lss (.t 2) (.t 0)) none <| .cond (.t 0) (.join [0, 3] (.block 1 (.op (.iad 1 (.t 2) (.t 3)) none <| .op (.load false 1 (.t 0)) none <| .op (.bin .eql (.t 0) (.c (.int .u8 13))) none <| .sel 13 (.t 0) true (.op (.bin .add (.t 6) (.c (.int .i64 1))) none <| .op (.len false (.t 6)) none <| .op (.bin .geq (.t 1) (.t 0)) none <| .sel 6 (.t 0) false (.op (.bin .add (.t 9) (.c (.int .i64 1))) none <| .op (.iad 1 (.t 9) (.t 0)) none <| .op (.load false 1 (.t 0)) none <| .op (.bin .neq (.t 0) (.c (.int .u8 10))) none <| .nx [(.t 0)]) (.c (.bool true)) <| .nx [(.t 0)]) (.c (.bool false)) <| .sel 17 (.t 0) false (.op (.iad 1 (.t 6) (.t 7)) none <| .op (.load false 1 (.t 0)) none <| .op (.bin .eql (.t 0) (.c (.int .u8 10))) none <| .sel 10 (.t 0) true (.op (.bin .eql (.t 10) (.c (.int .i64 0))) none <| .sel 6 (.t 0) false (.op (.bin .sub (.t 11) (.c (.int .i64 1))) none <| .op (.iad 1 (.t 11) (.t 0)) none <| .op (.load false 1 (.t 0)) none <| .op (.bin .neq (.t 0) (.c (.int .u8 13))) none <| .nx [(.t 0)]) (.c (.bool true)) <| .nx [(.t 0)]) (.c (.bool false)) <| .nx [(.t 0)]) (.c (.bool true)) <| .cond (.t 0) (.ret [(.c (.bool false))]) (.nx [(.t 7), (.t 8)]))) q9_0) (.exit 0 [(.t 2)])
def q9_2 : LC := .op (.len false (.t 0)) none <| .op (.bin .eql (.t 0) (.c (.int .i64 0))) none <| .sel 7 (.t 0) false (.op (.len false (.t 2)) none <| .op (.bin .sub (.t 0) (.c (.int .i64 1))) none <| .op (.iad 1 (.t 4) (.t 0)) none <| .op (.load false 1 (.t 0)) none <| .op (.bin .eql (.t 0) (.c (.int .u8 10))) none <| .nx [(.t 0)]) (.c (.bool true)) <| .ret [(.t 0)]
def q9 : LC := .join [0] (.block 0 (.loop [(.t 0), (.c (.int .i64 0))] q9_1)) q9_2
def l9 : LF := ⟨61, 1, [], [.t 0], q9, false⟩
theorem t9 : treeOf Tryd.prog Tryd.f9 (fun _ => 0) (fun d => if d = 0 then [0, 3] else []) false [] 1 100000 q9 = some l9 := by kernel_rfl
/-! wherry/wherrylaw15.name -/
def q10_0 : LC := .op (.bin .add (.t 1) (.c (.int .i64 1))) none <| .nx [(.t 1), (.t 0)]
def q10_1 : LC := .op (.len true (.t 0)) none <| .op (.bin .lss (.t 2) (.t 0)) none <| .cond (.t 0) (.join [0, 3] (.block 1 (.op (.idx (.t 2) (.t 3)) none <| .op (.bin .lss (.t 0) (.c (.int .u8 33))) none <| .sel 4 (.t 0) false (.op (.idx (.t 4) (.t 5)) none <| .op (.bin .gtr (.t 0) (.c (.int .u8 126))) none <| .nx [(.t 0)]) (.c (.bool true)) <| .sel 4 (.t 0) false (.op (.idx (.t 5) (.t 6)) none <| .op (.bin .eql (.t 0) (.c (.int .u8 58))) none <| .nx [(.t 0)]) (.c (.bool true)) <| .cond (.t 0) (.ret [(.c (.bool false))]) (.nx [(.t 6), (.t 7)]))) q10_0) (.exit 0 [(.t 2)])
def q10_2 : LC := .op (.len true (.t 0)) none <| .op (.bin .gtr (.t 0) (.c (.int .i64 0))) none <| .ret [(.t 0)]
def q10 : LC := .join [0] (.block 0 (.loop [(.t 0), (.c (.int .i64 0))] q10_1)) q10_2
def l10 : LF := ⟨29, 1, [], [.t 0], q10, false⟩
theorem t10 : treeOf Tryd.prog Tryd.f10 (fun _ => 0) (fun d => if d = 0 then [0, 3] else []) false [] 1 100000 q10 = some l10 := by kernel_rfl
/-! wherry/wherrylaw15.plain -/
def q11_0 : LC := .op (.bin .add (.t 1) (.c (.int .i64 1))) none <| .nx [(.t 1), (.t 0)]
def q11_1 : LC := .op (.len true (.t 0)) none <| .op (.bin .lss (.t 2) (.t 0)) none <| .cond (.t 0) (.join [0, 3] (.block 1 (.op (.idx (.t 2) (.t 3)) none <| .op (.bin .eql (.t 0) (.c (.int .u8 13))) none <| .sel 4 (.t 0) false (.op (.idx (.t 4) (.t 5)) none <| .op (.bin .eql (.t 0) (.c (.int .u8 10))) none <| .nx [(.t 0)]) (.c (.bool true)) <| .cond (.t 0) (.ret [(.c (.bool false))]) (.nx [(.t 5), (.t 6)]))) q11_0) (.exit 0 [])
def q11_2 : LC := .ret [(.c (.bool true))]
def q11 : LC := .join [] (.block 0 (.loop [(.t 0), (.c (.int .i64 0))] q11_1)) q11_2
def l11 : LF := ⟨20, 1, [], [.t 0], q11, false⟩
theorem t11 : treeOf Tryd.prog Tryd.f11 (fun _ => 0) (fun d => if d = 0 then [0, 3] else []) false [] 1 100000 q11 = some l11 := by kernel_rfl
/-! wherry/head.Scan -/
def q12_0 : LC := .op (.len false (.t 2)) none <| .op (.bin .add (.t 0) (.c (.int .i64 2))) none <| .op (.bin .add (.t 3) (.t 0)) none <| .nx [(.t 3), (.t 0), (.t 6), (.t 7), (.t 8)]
def q12_1 : LC := .op (.bin .add (.t 4) (.c (.int .i64 1))) none <| .nx [(.t 1), (.t 2), (.t 3), (.t 4), (.t 0)]
def q12_2 : LC := .op (.bin .lss (.t 4) (.t 3)) none <| .cond (.t 0) (.join [6, 7, 20, 21, 22] (.block 1 (.op (.iad 1 (.t 3) (.t 5)) none <| .op (.load false 1 (.t 0)) none <| .op (.call false false 26 [(.t 0)]) none <| .op (.ext (.t 0) 0) none <| .op (.ext (.t 1) 1) none <| .op (.ext (.t 2) 2) none <| .op (.len false (.t 4)) none <| .op (.bin .gtr (.t 0) (.c (.int .i64 0))) none <| .sel 10 (.t 0) true (.op (.iad 1 (.t 6) (.c (.int .i64 0))) none <| .op (.load false 1 (.t 0)) none <| .op (.bin .eql (.t 0) (.c (.int .u8 32))) none <| .sel 4 (.t 0) false (.op (.iad 1 (.t 9) (.c (.int .i64 0))) none <| .op (.load false 1 (.t 0)) none <| .op (.bin .eql (.t 0) (.c (.int .u8 9))) none <| .nx [(.t 0)]) (.c (.bool true)) <| .nx [(.t 0)]) (.c (.bool false)) <| .sel 3 (.t 0) true (.op (.len false (.t 10)) none <| .op (.bin .gtr (.t 0) (.c (.int .i64 0))) none <| .nx [(.t 0)]) (.c (.bool false)) <| .join [6, 7, 9, 20, 21, 22] (.block 2 (.cond (.t 4) (.op (.build [.str [], .str []] [(0, 1, (.t 6)), (1, 1, (.t 5))]) none <| .op (.lit false 2 1 [.str [], .str []] [(0, 2, (.t 0))]) none <| .op (.appr 2 32 (.t 13) (.t 0)) none <| .nx [(.t 0), (.t 15), (.t 11), (.t 16), (.t 17), (.t 18)]) (.cond (.t 0) (.op (.len false (.t 11)) none <| .op (.bin .sub (.t 0) (.c (.int .i64 1))) none <| .op (.iad 2 (.t 13) (.t 0)) none <| .op (.fad 1 (.t 0)) none <| .op (.load false 1 (.t 0)) none <| .op (.b2s (.t 13)) none <| .op (.bin .add (.t 1) (.t 0)) none <| .op (.iad 2 (.t 18) (.t 5)) none <| .op (.fad 1 (.t 0)) none <| .op (.store 1 (.t 0) (.t 2)) none <| .nx [(.t 21), (.t 22), (.t 18), (.t 23), (.t 24), (.t 25)]) (.op (.len false (.t 8)) none <| .op (.bin .eql (.t 0) (.c (.int .i64 0))) none <| .cond (.t 0) (.op (.bin .add (.t 14) (.c (.int .i64 2))) none <| .ret [(.t 14), (.t 0), (.c (.int .i64 0))]) (.ret [(.t 13), (.t 14), (.c (.int .i64 0))]))))) q12_0)) q12_1) (.exit 0 [(.t 1), (.t 2)])
def q12_3 : LC := .ret [(.t 0), (.t 1), (.c (.int .i64 0))]
def q12 : LC := .op (.call false false 24 [(.t 0)]) none <| .op (.bin .neq (.t 0) (.c (.int .i64 0))) none <| .cond (.t 0) (.ret [(.c (.sl .nil 0 0 [])), (.c (.int .i64 0)), (.t 1)]) (.op (.call false false 25 [(.t 2)]) none <| .op (.len false (.t 0)) none <| .join [6, 7] (.block 0 (.loop [(.c (.sl .nil 0 0 [])), (.c (.int .i64 0)), (.t 1), (.t 0), (.c (.int .i64 0))] q12_2)) q12_3)
def l12 : LF := ⟨91, 1, [], [.t 0, .t 1, .t 2], q12, true⟩
theorem t12 : treeOf Tryd.prog Tryd.f12 (fun d => if d = 6 then 2 else if d = 56 then 2 else if d = 61 then 1 else 0) (fun d => if d = 0 then [6, 7, 20, 21, 22] else []) true [] 1 100000 q12 = some l12 := by kernel_rfl
/-! wherry/wherrykeep.Fields -/
def q13_0 : LC := .op (.bin .add (.t 2) (.c (.int .i64 1))) none <| .nx [(.t 1), (.t 2), (.t 0)]
def q13_1 : LC := .op (.len false (.t 0)) none <| .op (.bin .lss (.t 3) (.t 0)) none <| .cond (.t 0) (.join [0, 1, 5] (.block 1 (.op (.iad 2 (.t 2) (.t 4)) none <| .op (.fad 0 (.t 0)) none <| .op (.load false 1 (.t 0)) none <| .op (.iad 2 (.t 6) (.t 7)) none <| .op (.fad 0 (.t 0)) none <| .op (.load false 1 (.t 0)) none <| .op (.bin .neq (.t 3) (.t 0)) none <| .sel 11 (.t 0) false (.op (.iad 2 (.t 9) (.t 11)) none <| .op (.fad 1 (.t 0)) none <| .op (.load false 1 (.t 0)) none <| .op (.iad 2 (.t 13) (.t 14)) none <| .op (.fad 1 (.t 0)) none <| .op (.load false 1 (.t 0)) none <| .op (.bin .neq (.t 3) (.t 0)) none <| .nx [(.t 0)]) (.c (.bool true)) <| .cond (.t 0) (.ret [(.c (.bool false))]) (.nx [(.t 10), (.t 11), (.t 12)]))) q13_0) (.exit 0 [])
def q13_2 : LC := .ret [(.c (.bool true))]
def q13 : LC := .op (.len false (.t 0)) none <| .op (.len false (.t 2)) none <| .op (.bin .neq (.t 1) (.t 0)) none <| .cond (.t 0) (.ret [(.c (.bool false))]) (.join [] (.block 0 (.loop [(.t 3), (.t 4), (.c (.int .i64 0))] q13_1)) q13_2)
def l13 : LF := ⟨41, 2, [], [.t 0], q13, false⟩
theorem t13 : treeOf Tryd.prog Tryd.f13 (fun _ => 0) (fun d => if d = 0 then [0, 1, 5] else []) false [] 2 100000 q13 = some l13 := by kernel_rfl
/-! wherry/wherrylaw15.wakes -/
def q14 : LC := .op (.lit true 1 11 [.int .u8 0, .int .u8 0, .int .u8 0, .int .u8 0, .int .u8 0, .int .u8 0, .int .u8 0, .int .u8 0, .int .u8 0, .int .u8 0, .int .u8 0] [(0, 1, (.c (.int .u8 65))), (1, 1, (.c (.int .u8 58))), (2, 1, (.c (.int .u8 32))), (3, 1, (.c (.int .u8 98))), (4, 1, (.c (.int .u8 13))), (5, 1, (.c (.int .u8 10))), (6, 1, (.c (.int .u8 13))), (7, 1, (.c (.int .u8 10))), (8, 1, (.c (.int .u8 99))), (9, 1, (.c (.int .u8 13))), (10, 1, (.c (.int .u8 10)))]) none <| .op (.frz (.t 0)) none <| .op (.call false false 12 [(.t 0)]) none <| .op (.ext (.t 0) 0) none <| .op (.ext (.t 1) 1) none <| .op (.ext (.t 2) 2) none <| .op (.call false false 18 [(.c (.str [104])), (.c (.str [115])), (.c (.int .i64 7))]) none <| .op (.ext (.t 0) 0) none <| .op (.ext (.t 1) 1) none <| .op (.bin .eql (.t 3) (.c (.int .i64 0))) none <| .sel 2 (.t 0) true (.op (.bin .eql (.t 1) (.c (.int .i64 0))) none <| .nx [(.t 0)]) (.c (.bool false)) <| .sel 2 (.t 0) true (.op (.bin .eql (.t 6) (.c (.int .i64 8))) none <| .nx [(.t 0)]) (.c (.bool false)) <| .sel 4 (.t 0) true (.op (.build [.str [], .str []] [(0, 1, (.c (.str [65]))), (1, 1, (.c (.str [32, 98])))]) none <| .op (.lit false 2 1 [.str [], .str []] [(0, 2, (.t 0))]) none <| .op (.call false false 13 [(.t 10), (.t 0)]) none <| .nx [(.t 0)]) (.c (.bool false)) <| .sel 3 (.t 0) true (.op (.b2s (.t 5)) none <| .op (.bin .eql (.t 0) (.c (.str [82, 101, 99, 101, 105, 118, 101, 100, 58, 32, 102, 114, 111, 109, 32, 104, 32, 98, 121, 32, 115, 32, 119, 105, 116, 104, 32, 69, 83, 77, 84, 80, 59, 32, 55, 13, 10]))) none <| .nx [(.t 0)]) (.c (.bool false)) <| .ret [(.t 0)]
def l14 : LF := ⟨38, 0, [], [.t 0], q14, false⟩
theorem t14 : treeOf Tryd.prog Tryd.f14 (fun d => if d = 7 then 2 else 0) (fun _ => []) false [] 0 100000 q14 = some l14 := by kernel_rfl
/-! wherry/wherrykeep.Twin -/
def q15 : LC := .op (.app 1 1 (.c (.sl .nil 0 0 [])) (.t 0)) none <| .ret [(.t 0)]
def l15 : LF := ⟨7, 1, [], [.t 0], q15, false⟩
theorem t15 : treeOf Tryd.prog Tryd.f15 (fun d => if d = 3 then 2 else if d = 4 then 2 else 0) (fun _ => []) false [] 1 100000 q15 = some l15 := by kernel_rfl
/-! wherry/wherrykeep.Bytes -/
def q16_0 : LC := .op (.bin .add (.t 2) (.c (.int .i64 1))) none <| .nx [(.t 1), (.t 2), (.t 0)]
def q16_1 : LC := .op (.len false (.t 0)) none <| .op (.bin .lss (.t 3) (.t 0)) none <| .cond (.t 0) (.join [0, 1, 5] (.block 1 (.op (.iad 1 (.t 2) (.t 4)) none <| .op (.load false 1 (.t 0)) none <| .op (.iad 1 (.t 5) (.t 6)) none <| .op (.load false 1 (.t 0)) none <| .op (.bin .neq (.t 2) (.t 0)) none <| .cond (.t 0) (.ret [(.c (.bool false))]) (.nx [(.t 7), (.t 8), (.t 9)]))) q16_0) (.exit 0 [])
def q16_2 : LC := .ret [(.c (.bool true))]
def q16 : LC := .op (.len false (.t 0)) none <| .op (.len false (.t 2)) none <| .op (.bin .neq (.t 1) (.t 0)) none <| .cond (.t 0) (.ret [(.c (.bool false))]) (.join [] (.block 0 (.loop [(.t 3), (.t 4), (.c (.int .i64 0))] q16_1)) q16_2)
def l16 : LF := ⟨26, 2, [], [.t 0], q16, false⟩
theorem t16 : treeOf Tryd.prog Tryd.f16 (fun _ => 0) (fun d => if d = 0 then [0, 1, 5] else []) false [] 2 100000 q16 = some l16 := by kernel_rfl
/-! wherry/head.Hops -/
def q17_0 : LC := .op (.bin .add (.t 3) (.c (.int .i64 1))) none <| .nx [(.t 1), (.t 2), (.t 3), (.t 0)]
def q17_1 : LC := .op (.bin .lss (.t 3) (.t 2)) none <| .cond (.t 0) (.join [7, 19, 20, 21] (.block 1 (.op (.iad 2 (.t 2) (.t 4)) none <| .op (.load true 2 (.t 0)) none <| .op (.alloc [.str [], .str []]) none <| .op (.store 2 (.t 0) (.t 1)) none <| .op (.fad 0 (.t 1)) none <| .op (.load false 1 (.t 0)) none <| .op (.call false false 27 [(.t 0)]) none <| .op (.bin .eql (.t 0) (.c (.str [114, 101, 99, 101, 105, 118, 101, 100]))) none <| .cond (.t 0) (.op (.bin .add (.t 9) (.c (.int .i64 1))) none <| .nx [(.t 0), (.t 11), (.t 12), (.t 13)]) (.nx [(.t 9), (.t 10), (.t 11), (.t 12)]))) q17_0) (.exit 0 [(.t 1)])
def q17_2 : LC := .ret [(.t 0), (.c (.int .i64 0))]
def q17 : LC := .op (.call false false 12 [(.t 0)]) none <| .op (.ext (.t 0) 0) none <| .op (.ext (.t 1) 1) none <| .op (.ext (.t 2) 2) none <| .op (.bin .neq (.t 0) (.c (.int .i64 0))) none <| .cond (.t 0) (.ret [(.c (.int .i64 0)), (.t 1)]) (.op (.len false (.t 3)) none <| .join [7] (.block 0 (.loop [(.c (.int .i64 0)), (.t 4), (.t 0), (.c (.int .i64 0))] q17_1)) q17_2)
def l17 : LF := ⟨33, 1, [], [.t 0, .t 1], q17, false⟩
theorem t17 : treeOf Tryd.prog Tryd.f17 (fun _ => 0) (fun d => if d = 0 then [7, 19, 20, 21] else []) false [] 1 100000 q17 = some l17 := by kernel_rfl
/-! wherry/head.Stamp -/
def q18_0 : LC := .op (.bin .add (.c (.str [82, 101, 99, 101, 105, 118, 101, 100, 58, 32, 102, 114, 111, 109, 32])) (.t 0)) none <| .op (.bin .add (.t 0) (.c (.str [32, 98, 121, 32]))) none <| .op (.bin .add (.t 0) (.t 3)) none <| .op (.bin .add (.t 0) (.c (.str [32, 119, 105, 116, 104, 32, 69, 83, 77, 84, 80, 59, 32]))) none <| .op (.call false false 29 [(.t 6)]) none <| .op (.bin .add (.t 1) (.t 0)) none <| .op (.bin .add (.t 0) (.c (.str [13, 10]))) none <| .op (.s2b false (.t 0)) none <| .ret [(.t 0), (.c (.int .i64 0))]
def q18 : LC := .join [0, 1, 2] (.block 0 (.op (.call false false 28 [(.t 0)]) none <| .op (.un .not (.t 0)) none <| .sel 3 (.t 0) false (.op (.call false false 28 [(.t 3)]) none <| .op (.un .not (.t 0)) none <| .nx [(.t 0)]) (.c (.bool true)) <| .cond (.t 0) (.ret [(.c (.sl .nil 0 0 [])), (.c (.int .i64 5))]) (.op (.bin .lss (.t 5) (.c (.int .i64 0))) none <| .sel 2 (.t 0) false (.op (.bin .gtr (.t 6) (.c (.int .i64 1099511627776))) none <| .nx [(.t 0)]) (.c (.bool true)) <| .cond (.t 0) (.ret [(.c (.sl .nil 0 0 [])), (.c (.int .i64 1))]) (.nx [(.t 5), (.t 6), (.t 7)])))) q18_0
def l18 : LF := ⟨35, 3, [], [.t 0, .t 1], q18, false⟩
theorem t18 : treeOf Tryd.prog Tryd.f18 (fun _ => 0) (fun _ => []) false [] 3 100000 q18 = some l18 := by kernel_rfl
/-! wherry/head.Put -/
def q19 : LC := .op (.call false false 24 [(.t 0)]) none <| .op (.bin .neq (.t 0) (.c (.int .i64 0))) none <| .cond (.t 0) (.ret [(.c (.sl .nil 0 0 [])), (.t 1)]) (.op (.call false false 18 [(.t 3), (.t 4), (.t 5)]) none <| .op (.ext (.t 0) 0) none <| .op (.ext (.t 1) 1) none <| .op (.bin .neq (.t 0) (.c (.int .i64 0))) none <| .cond (.t 0) (.ret [(.c (.sl .nil 0 0 [])), (.t 1)]) (.op (.lit false 1 2 [.sl .nil 0 0 [], .sl .nil 0 0 []] [(0, 1, (.t 2)), (1, 1, (.t 6))]) none <| .op (.call false false 30 [(.t 0)]) none <| .ret [(.t 0), (.c (.int .i64 0))]))
def l19 : LF := ⟨31, 4, [], [.t 0, .t 1], q19, false⟩
theorem t19 : treeOf Tryd.prog Tryd.f19 (fun _ => 0) (fun _ => []) false [] 4 100000 q19 = some l19 := by kernel_rfl
/-! wherry/wherryref11.Domain -/
def q20_0 : LC := .op (.bin .add (.t 2) (.c (.int .i64 1))) none <| .nx [(.t 1), (.t 2), (.t 0)]
def q20_1 : LC := .op (.len true (.t 0)) none <| .op (.bin .leq (.t 3) (.t 0)) none <| .cond (.t 0) (.join [0, 3, 4] (.block 1 (.op (.len true (.t 2)) none <| .op (.bin .lss (.t 5) (.t 0)) none <| .sel 4 (.t 0) true (.op (.idx (.t 4) (.t 6)) none <| .op (.bin .neq (.t 0) (.c (.int .u8 46))) none <| .nx [(.t 0)]) (.c (.bool false)) <| .cond (.t 0) (.op (.idx (.t 5) (.t 7)) none <| .op (.call false false 32 [(.t 0)]) none <| .op (.un .not (.t 0)) none <| .sel 5 (.t 0) true (.op (.idx (.t 8) (.t 10)) none <| .op (.call false false 33 [(.t 0)]) none <| .op (.un .not (.t 0)) none <| .nx [(.t 0)]) (.c (.bool false)) <| .sel 4 (.t 0) true (.op (.idx (.t 9) (.t 11)) none <| .op (.bin .neq (.t 0) (.c (.int .u8 45))) none <| .nx [(.t 0)]) (.c (.bool false)) <| .cond (.t 0) (.ret [(.c (.bool false))]) (.exit 1 [(.t 10), (.t 11), (.t 12)])) (.op (.bin .sub (.t 7) (.t 6)) none <| .op (.call false false 31 [(.t 0), (.c (.int .i64 1)), (.c (.int .i64 63))]) none <| .op (.un .not (.t 0)) none <| .sel 4 (.t 0) false (.op (.idx (.t 8) (.t 9)) none <| .op (.bin .eql (.t 0) (.c (.int .u8 45))) none <| .nx [(.t 0)]) (.c (.bool true)) <| .sel 5 (.t 0) false (.op (.bin .sub (.t 11) (.c (.int .i64 1))) none <| .op (.idx (.t 10) (.t 0)) none <| .op (.bin .eql (.t 0) (.c (.int .u8 45))) none <| .nx [(.t 0)]) (.c (.bool true)) <| .cond (.t 0) (.ret [(.c (.bool false))]) (.op (.bin .add (.t 12) (.c (.int .i64 1))) none <| .nx [(.t 11), (.t 0), (.t 13)])))) q20_0) (.exit 0 [])
def q20_2 : LC := .ret [(.c (.bool true))]
def q20 : LC := .op (.len true (.t 0)) none <| .op (.call false false 31 [(.t 0), (.c (.int .i64 1)), (.c (.int .i64 255))]) none <| .op (.un .not (.t 0)) none <| .cond (.t 0) (.ret [(.c (.bool false))]) (.join [] (.block 0 (.loop [(.t 3), (.c (.int .i64 0)), (.c (.int .i64 0))] q20_1)) q20_2)
def l20 : LF := ⟨63, 1, [], [.t 0], q20, false⟩
theorem t20 : treeOf Tryd.prog Tryd.f20 (fun _ => 0) (fun d => if d = 0 then [0, 3, 4] else []) false [] 1 100000 q20 = some l20 := by kernel_rfl
/-! wherry/wherryref11.Stamp -/
def q21 : LC := .op (.bin .add (.c (.str [82, 101, 99, 101, 105, 118, 101, 100, 58, 32, 102, 114, 111, 109, 32])) (.t 0)) none <| .op (.bin .add (.t 0) (.c (.str [32, 98, 121, 32]))) none <| .op (.bin .add (.t 0) (.t 3)) none <| .op (.bin .add (.t 0) (.c (.str [32, 119, 105, 116, 104, 32, 69, 83, 77, 84, 80, 59, 32]))) none <| .op (.call false false 34 [(.t 6)]) none <| .op (.bin .add (.t 1) (.t 0)) none <| .op (.bin .add (.t 0) (.c (.str [13, 10]))) none <| .op (.s2b false (.t 0)) none <| .ret [(.t 0)]
def l21 : LF := ⟨18, 3, [], [.t 0], q21, false⟩
theorem t21 : treeOf Tryd.prog Tryd.f21 (fun _ => 0) (fun _ => []) false [] 3 100000 q21 = some l21 := by kernel_rfl
/-! wherry/wherryref11.Scan -/
def q22_0 : LC := .nx [(.t 0), (.t 1), (.t 2)]
def q22_1 : LC := .join [0, 4, 5] (.block 1 (.op (.call false false 35 [(.t 0), (.t 2)]) none <| .op (.bin .lss (.t 0) (.c (.int .i64 0))) none <| .cond (.t 0) (.ret [(.t 3), (.t 4)]) (.op (.cut 1 (.t 2) (some (.t 4)) (some (.t 1))) none <| .op (.len false (.t 0)) none <| .op (.bin .eql (.t 0) (.c (.int .i64 0))) none <| .cond (.t 0) (.op (.bin .add (.t 4) (.c (.int .i64 2))) none <| .ret [(.t 7), (.t 0)]) (.op (.len false (.t 6)) none <| .op (.bin .gtr (.t 0) (.c (.int .i64 0))) none <| .sel 10 (.t 0) true (.op (.iad 1 (.t 4) (.c (.int .i64 0))) none <| .op (.load false 1 (.t 0)) none <| .op (.bin .eql (.t 0) (.c (.int .u8 32))) none <| .sel 4 (.t 0) false (.op (.iad 1 (.t 7) (.c (.int .i64 0))) none <| .op (.load false 1 (.t 0)) none <| .op (.bin .eql (.t 0) (.c (.int .u8 9))) none <| .nx [(.t 0)]) (.c (.bool true)) <| .nx [(.t 0)]) (.c (.bool false)) <| .cond (.t 0) (.op (.len false (.t 9)) none <| .op (.bin .sub (.t 0) (.c (.int .i64 1))) none <| .op (.iad 2 (.t 11) (.t 0)) none <| .op (.chk (.t 0)) none <| .op (.fad 1 (.t 0)) none <| .op (.load false 1 (.t 0)) none <| .op (.b2s (.t 11)) none <| .op (.bin .add (.t 1) (.t 0)) none <| .op (.chk (.t 5)) none <| .op (.fad 1 (.t 0)) none <| .op (.store 1 (.t 0) (.t 2)) none <| .op (.bin .add (.t 18) (.c (.int .i64 2))) none <| .exit 1 [(.t 20), (.t 21), (.t 0)]) (.op (.call false false 36 [(.t 5)]) none <| .op (.bin .lss (.t 0) (.c (.int .i64 0))) none <| .cond (.t 0) (.ret [(.t 11), (.t 12)]) (.op (.cut 1 (.t 7) none (some (.t 1))) none <| .op (.b2s (.t 0)) none <| .op (.bin .add (.t 3) (.c (.int .i64 1))) none <| .op (.cut 1 (.t 10) (some (.t 0)) none) none <| .op (.b2s (.t 0)) none <| .op (.build [.str [], .str []] [(0, 1, (.t 3)), (1, 1, (.t 0))]) none <| .op (.lit false 2 1 [.str [], .str []] [(0, 2, (.t 0))]) none <| .op (.appr 2 32 (.t 18) (.t 0)) none <| .op (.bin .add (.t 17) (.c (.int .i64 2))) none <| .nx [(.t 19), (.t 1), (.t 0)])))))) q22_0
def q22_2 : LC := .nx [(.t 0), (.t 1)]
def q22 : LC := .join [2, 3] (.block 0 (.loop [(.t 0), (.c (.sl .nil 0 0 [])), (.c (.int .i64 0))] q22_1)) q22_2
def l22 : LF := ⟨80, 1, [], [.t 0, .t 1], q22, true⟩
theorem t22 : treeOf Tryd.prog Tryd.f22 (fun d => if d = 4 then 2 else if d = 65 then 2 else if d = 77 then 1 else 0) (fun d => if d = 0 then [0, 4, 5] else []) true [] 1 100000 q22 = some l22 := by kernel_rfl
/-! wherry/wherryref11.Hops -/
def q23_0 : LC := .op (.bin .add (.t 2) (.c (.int .i64 1))) none <| .nx [(.t 1), (.t 2), (.t 0)]
def q23_1 : LC := .op (.len false (.t 0)) none <| .op (.bin .lss (.t 3) (.t 0)) none <| .cond (.t 0) (.join [3, 5, 6] (.block 1 (.op (.iad 2 (.t 2) (.t 4)) none <| .op (.fad 0 (.t 0)) none <| .op (.load false 1 (.t 0)) none <| .op (.call false false 37 [(.t 0)]) none <| .op (.bin .eql (.t 0) (.c (.str [114, 101, 99, 101, 105, 118, 101, 100]))) none <| .cond (.t 0) (.op (.bin .add (.t 8) (.c (.int .i64 1))) none <| .nx [(.t 8), (.t 0), (.t 10)]) (.nx [(.t 7), (.t 8), (.t 9)]))) q23_0) (.exit 0 [(.t 3)])
def q23_2 : LC := .ret [(.t 0)]
def q23 : LC := .op (.call false false 22 [(.t 0)]) none <| .op (.ext (.t 0) 0) none <| .op (.ext (.t 1) 1) none <| .join [5] (.block 0 (.loop [(.t 1), (.c (.int .i64 0)), (.c (.int .i64 0))] q23_1)) q23_2
def l23 : LF := ⟨28, 1, [], [.t 0], q23, false⟩
theorem t23 : treeOf Tryd.prog Tryd.f23 (fun _ => 0) (fun d => if d = 0 then [3, 5, 6] else []) false [] 1 100000 q23 = some l23 := by kernel_rfl
/-! wherry/dots.Check -/
def q24_0 : LC := .op (.bin .add (.t 2) (.c (.int .i64 1))) none <| .nx [(.t 1), (.t 2), (.t 0)]
def q24_1 : LC := .op (.bin .lss (.t 2) (.t 1)) none <| .cond (.t 0) (.join [15, 16, 17] (.block 1 (.op (.iad 1 (.t 1) (.t 3)) none <| .op (.load false 1 (.t 0)) none <| .op (.call false false 40 [(.t 0), (.c (.int .u8 13))]) none <| .op (.bin .geq (.t 0) (.c (.int .i64 0))) none <| .sel 3 (.t 0) false (.op (.call false false 40 [(.t 2), (.c (.int .u8 10))]) none <| .op (.bin .geq (.t 0) (.c (.int .i64 0))) none <| .nx [(.t 0)]) (.c (.bool true)) <| .cond (.t 0) (.ret [(.c (.int .i64 5))]) (.nx [(.t 6), (.t 7), (.t 8)]))) q24_0) (.exit 0 [])
def q24_2 : LC := .ret [(.c (.int .i64 0))]
def q24 : LC := .op (.len false (.t 0)) none <| .op (.bin .gtr (.t 0) (.c (.int .i64 0))) none <| .sel 4 (.t 0) true (.op (.call false false 39 []) none <| .op (.call false false 38 [(.t 3), (.t 0)]) none <| .op (.un .not (.t 0)) none <| .nx [(.t 0)]) (.c (.bool false)) <| .cond (.t 0) (.ret [(.c (.int .i64 5))]) (.op (.call false false 25 [(.t 3)]) none <| .op (.len false (.t 0)) none <| .join [] (.block 0 (.loop [(.t 1), (.t 0), (.c (.int .i64 0))] q24_1)) q24_2)
def l24 : LF := ⟨30, 1, [], [.t 0], q24, false⟩
theorem t24 : treeOf Tryd.prog Tryd.f24 (fun _ => 0) (fun d => if d = 0 then [15, 16, 17] else []) false [] 1 100000 q24 = some l24 := by kernel_rfl
/-! wherry/dots.Lines -/
def q25_0 : LC := .nx [(.t 0), (.t 1)]
def q25_1 : LC := .join [0, 3] (.block 1 (.op (.call false false 39 []) none <| .op (.call false false 41 [(.t 1), (.t 0)]) none <| .op (.ext (.t 0) 0) none <| .op (.ext (.t 1) 1) none <| .op (.ext (.t 2) 2) none <| .op (.un .not (.t 0)) none <| .cond (.t 0) (.ret [(.t 7)]) (.op (.call false false 42 [(.t 3)]) none <| .op (.lit false 1 1 [.sl .nil 0 0 []] [(0, 1, (.t 0))]) none <| .op (.app 1 24 (.t 9) (.t 0)) none <| .nx [(.t 5), (.t 0)]))) q25_0
def q25_2 : LC := .nx [(.t 0)]
def q25 : LC := .join [2] (.block 0 (.loop [(.t 0), (.c (.sl .nil 0 0 []))] q25_1)) q25_2
def l25 : LF := ⟨23, 1, [], [.t 0], q25, false⟩
theorem t25 : treeOf Tryd.prog Tryd.f25 (fun d => if d = 3 then 2 else if d = 17 then 2 else if d = 21 then 2 else 0) (fun d => if d = 0 then [0, 3] else []) false [] 1 100000 q25 = some l25 := by kernel_rfl
/-! wherry/head.name -/
def q26_0 : LC := .nx [(.t 0), (.t 1), (.t 2), (.t 3)]
def q26_1 : LC := .op (.bin .add (.t 3) (.c (.int .i64 1))) none <| .nx [(.t 1), (.t 2), (.t 3), (.t 0)]
def q26_2 : LC := .op (.bin .lss (.t 3) (.t 2)) none <| .cond (.t 0) (.join [0, 7, 8, 9] (.block 1 (.op (.iad 1 (.t 2) (.t 4)) none <| .op (.load false 1 (.t 0)) none <| .join [0, 7, 8, 9] (.block 2 (.op (.bin .eql (.t 0) (.c (.int .u8 58))) none <| .cond (.t 0) (.op (.cut 1 (.t 4) none (some (.t 7))) none <| .op (.b2s (.t 0)) none <| .op (.bin .add (.t 9) (.c (.int .i64 1))) none <| .op (.cut 1 (.t 7) (some (.t 0)) none) none <| .op (.b2s (.t 0)) none <| .op (.bin .gtr (.t 12) (.c (.int .i64 0))) none <| .ret [(.t 4), (.t 1), (.t 0)]) (.op (.bin .lss (.t 1) (.c (.int .u8 33))) none <| .sel 2 (.t 0) false (.op (.bin .gtr (.t 2) (.c (.int .u8 126))) none <| .nx [(.t 0)]) (.c (.bool true)) <| .cond (.t 0) (.ret [(.c (.str [])), (.c (.str [])), (.c (.bool false))]) (.nx [(.t 6), (.t 7), (.t 8), (.t 9)])))) q26_0)) q26_1) (.exit 0 [])
def q26_3 : LC := .ret [(.c (.str [])), (.c (.str [])), (.c (.bool false))]
def q26 : LC := .op (.len false (.t 0)) none <| .join [] (.block 0 (.loop [(.t 1), (.t 1), (.t 0), (.c (.int .i64 0))] q26_2)) q26_3
def l26 : LF := ⟨36, 1, [], [.t 0, .t 1, .t 2], q26, false⟩
theorem t26 : treeOf Tryd.prog Tryd.f26 (fun _ => 0) (fun d => if d = 0 then [0, 7, 8, 9] else []) false [] 1 100000 q26 = some l26 := by kernel_rfl
/-! wherry/path.Fold -/
def q27_0 : LC := .op (.bin .add (.t 3) (.c (.int .i64 1))) none <| .nx [(.t 1), (.t 2), (.t 3), (.t 0)]
def q27_1 : LC := .op (.bin .lss (.t 3) (.t 2)) none <| .cond (.t 0) (.join [3, 8, 9, 10] (.block 1 (.op (.iad 1 (.t 2) (.t 4)) none <| .op (.load false 1 (.t 0)) none <| .op (.bin .geq (.t 0) (.c (.int .u8 65))) none <| .sel 2 (.t 0) true (.op (.bin .leq (.t 1) (.c (.int .u8 90))) none <| .nx [(.t 0)]) (.c (.bool false)) <| .cond (.t 0) (.op (.bin .add (.t 2) (.c (.int .u8 97))) none <| .op (.bin .sub (.t 0) (.c (.int .u8 65))) none <| .op (.iad 1 (.t 7) (.t 10)) none <| .op (.store 1 (.t 0) (.t 1)) none <| .nx [(.t 9), (.t 10), (.t 11), (.t 12)]) (.nx [(.t 5), (.t 6), (.t 7), (.t 8)]))) q27_0) (.exit 0 [(.t 1)])
def q27_2 : LC := .op (.b2s (.t 0)) none <| .ret [(.t 0)]
def q27 : LC := .op (.s2b true (.t 0)) none <| .op (.len false (.t 0)) none <| .join [3] (.block 0 (.loop [(.t 1), (.t 1), (.t 0), (.c (.int .i64 0))] q27_1)) q27_2
def l27 : LF := ⟨30, 1, [], [.t 0], q27, false⟩
theorem t27 : treeOf Tryd.prog Tryd.f27 (fun d => if d = 7 then 1 else 0) (fun d => if d = 0 then [3, 8, 9, 10] else []) false [] 1 100000 q27 = some l27 := by kernel_rfl
/-! wherry/path.Domain -/
def q28 : LC := .op (.call false false 43 [(.t 0), (.c (.int .i64 255)), (.c (.fn 44 []))]) none <| .ret [(.t 0)]
def l28 : LF := ⟨5, 1, [], [.t 0], q28, false⟩
theorem t28 : treeOf Tryd.prog Tryd.f28 (fun _ => 0) (fun _ => []) false [] 1 100000 q28 = some l28 := by kernel_rfl
-- 29 strconv.Itoa: told otherwise
/-! slices.Concat[[]byte,byte] -/
def q30_0 : LC := .op (.bin .add (.t 4) (.c (.int .i64 1))) none <| .nx [(.t 1), (.t 2), (.t 3), (.t 4), (.t 0)]
def q30_1 : LC := .op (.bin .lss (.t 4) (.t 3)) none <| .cond (.t 0) (.join [0, 3, 9, 10, 11] (.block 1 (.op (.iad 1 (.t 3) (.t 5)) none <| .op (.load false 1 (.t 0)) none <| .op (.len false (.t 0)) none <| .op (.bin .add (.t 5) (.t 0)) none <| .op (.bin .lss (.t 0) (.c (.int .i64 0))) none <| .cond (.t 0) (.op (.no) none <| .op (.no) none <| .nx [(.t 8), (.t 3), (.t 10), (.t 11), (.t 12)]) (.nx [(.t 6), (.t 1), (.t 8), (.t 9), (.t 10)]))) q30_0) (.exit 0 [(.t 1), (.t 2)])
def q30_2 : LC := .op (.bin .add (.t 3) (.c (.int .i64 1))) none <| .nx [(.t 1), (.t 2), (.t 3), (.t 0)]
def q30_3 : LC := .op (.bin .lss (.t 3) (.t 2)) none <| .cond (.t 0) (.join [6, 25, 26, 27] (.block 3 (.op (.iad 1 (.t 2) (.t 4)) none <| .op (.load false 1 (.t 0)) none <| .op (.app 1 1 (.t 3) (.t 0)) none <| .nx [(.t 0), (.t 5), (.t 6), (.t 7)])) q30_2) (.exit 2 [(.t 1)])
def q30_4 : LC := .ret [(.t 0)]
def q30_5 : LC := .op (.call false true 46 [(.c (.sl .nil 0 0 [])), (.t 1)]) none <| .op (.len false (.t 1)) none <| .join [6] (.block 2 (.loop [(.t 1), (.t 2), (.t 0), (.c (.int .i64 0))] q30_3)) q30_4
def q30 : LC := .op (.len false (.t 0)) none <| .join [0, 3] (.block 0 (.loop [(.t 1), (.c (.int .i64 0)), (.t 1), (.t 0), (.c (.int .i64 0))] q30_1)) q30_5
def l30 : LF := ⟨36, 1, [], [.t 0], q30, false⟩
theorem t30 : treeOf Tryd.prog Tryd.f30 (fun d => if d = 6 then 2 else if d = 24 then 2 else if d = 31 then 2 else if d = 33 then 2 else 0) (fun d => if d = 0 then [0, 3, 9, 10, 11] else if d = 2 then [6, 25, 26, 27] else []) false [] 1 100000 q30 = some l30 := by kernel_rfl
/-! wherry/wherryref11.in -/
def q31 : LC := .op (.bin .geq (.t 0) (.t 1)) none <| .sel 3 (.t 0) true (.op (.bin .leq (.t 1) (.t 3)) none <| .nx [(.t 0)]) (.c (.bool false)) <| .ret [(.t 0)]
def l31 : LF := ⟨15, 3, [], [.t 0], q31, false⟩
theorem t31 : treeOf Tryd.prog Tryd.f31 (fun _ => 0) (fun _ => []) false [] 3 100000 q31 = some l31 := by kernel_rfl
/-! wherry/wherryref11.letter -/
def q32 : LC := .op (.bin .geq (.t 0) (.c (.int .u8 97))) none <| .sel 2 (.t 0) true (.op (.bin .leq (.t 1) (.c (.int .u8 122))) none <| .nx [(.t 0)]) (.c (.bool false)) <| .sel 6 (.t 0) false (.op (.bin .geq (.t 2) (.c (.int .u8 65))) none <| .sel 2 (.t 0) true (.op (.bin .leq (.t 3) (.c (.int .u8 90))) none <| .nx [(.t 0)]) (.c (.bool false)) <| .nx [(.t 0)]) (.c (.bool true)) <| .ret [(.t 0)]
def l32 : LF := ⟨17, 1, [], [.t 0], q32, false⟩
theorem t32 : treeOf Tryd.prog Tryd.f32 (fun _ => 0) (fun _ => []) false [] 1 100000 q32 = some l32 := by kernel_rfl
/-! wherry/wherryref11.digit -/
def q33 : LC := .op (.bin .geq (.t 0) (.c (.int .u8 48))) none <| .sel 2 (.t 0) true (.op (.bin .leq (.t 1) (.c (.int .u8 57))) none <| .nx [(.t 0)]) (.c (.bool false)) <| .ret [(.t 0)]
def l33 : LF := ⟨9, 1, [], [.t 0], q33, false⟩
theorem t33 : treeOf Tryd.prog Tryd.f33 (fun _ => 0) (fun _ => []) false [] 1 100000 q33 = some l33 := by kernel_rfl
/-! wherry/wherryref11.Digits -/
def q34_0 : LC := .nx [(.t 0), (.t 1)]
def q34_1 : LC := .op (.bin .gtr (.t 0) (.c (.int .i64 9))) none <| .cond (.t 0) (.join [0, 3] (.block 1 (.op (.bin .rem (.t 1) (.c (.int .i64 10))) none <| .op (.bin .rem (.t 2) (.c (.int .i64 10))) none <| .op (.bin .add (.t 0) (.c (.int .i64 1))) none <| .op (.cut 0 (.c (.str [48, 49, 50, 51, 52, 53, 54, 55, 56, 57])) (some (.t 2)) (some (.t 0))) none <| .op (.bin .add (.t 0) (.t 6)) none <| .op (.bin .quo (.t 6) (.c (.int .i64 10))) none <| .nx [(.t 0), (.t 1)])) q34_0) (.exit 0 [(.t 1), (.t 2)])
def q34_2 : LC := .op (.bin .add (.t 0) (.c (.int .i64 1))) none <| .op (.cut 0 (.c (.str [48, 49, 50, 51, 52, 53, 54, 55, 56, 57])) (some (.t 1)) (some (.t 0))) none <| .op (.bin .add (.t 0) (.t 3)) none <| .ret [(.t 0)]
def q34 : LC := .join [0, 3] (.block 0 (.loop [(.t 0), (.c (.str []))] q34_1)) q34_2
def l34 : LF := ⟨22, 1, [], [.t 0], q34, false⟩
theorem t34 : treeOf Tryd.prog Tryd.f34 (fun _ => 0) (fun d => if d = 0 then [0, 3] else []) false [] 1 100000 q34 = some l34 := by kernel_rfl
/-! wherry/wherryref11.end -/
def q35_0 : LC := .op (.bin .add (.t 1) (.c (.int .i64 1))) none <| .nx [(.t 1), (.t 0)]
def q35_1 : LC := .op (.bin .add (.t 1) (.c (.int .i64 1))) none <| .op (.len false (.t 1)) none <| .op (.bin .lss (.t 1) (.t 0)) none <| .cond (.t 0) (.join [0, 5] (.block 1 (.op (.iad 1 (.t 3) (.t 4)) none <| .op (.load false 1 (.t 0)) none <| .op (.bin .eql (.t 0) (.c (.int .u8 13))) none <| .sel 6 (.t 0) true (.op (.bin .add (.t 7) (.c (.int .i64 1))) none <| .op (.iad 1 (.t 7) (.t 0)) none <| .op (.load false 1 (.t 0)) none <| .op (.bin .eql (.t 0) (.c (.int .u8 10))) none <| .nx [(.t 0)]) (.c (.bool false)) <| .cond (.t 0) (.ret [(.t 8)]) (.nx [(.t 7), (.t 8)]))) q35_0) (.exit 0 [])
def q35_2 : LC := .ret [(.c (.int .i64 (-1)))]
def q35 : LC := .join [] (.block 0 (.loop [(.t 0), (.t 1)] q35_1)) q35_2
def l35 : LF := ⟨28, 2, [], [.t 0], q35, false⟩
theorem t35 : treeOf Tryd.prog Tryd.f35 (fun _ => 0) (fun d => if d = 0 then [0, 5] else []) false [] 2 100000 q35 = some l35 := by kernel_rfl
/-! wherry/wherryref11.colon -/
def q36_0 : LC := .op (.bin .add (.t 1) (.c (.int .i64 1))) none <| .nx [(.t 1), (.t 0)]
def q36_1 : LC := .op (.len false (.t 0)) none <| .op (.bin .lss (.t 2) (.t 0)) none <| .cond (.t 0) (.join [0, 3] (.block 1 (.op (.iad 1 (.t 2) (.t 3)) none <| .op (.load false 1 (.t 0)) none <| .op (.bin .eql (.t 0) (.c (.int .u8 58))) none <| .cond (.t 0) (.op (.bin .eql (.t 6) (.c (.int .i64 0))) none <| .cond (.t 0) (.ret [(.c (.int .i64 (-1)))]) (.ret [(.t 7)])) (.op (.iad 1 (.t 5) (.t 6)) none <| .op (.load false 1 (.t 0)) none <| .op (.bin .lss (.t 0) (.c (.int .u8 33))) none <| .sel 5 (.t 0) false (.op (.iad 1 (.t 8) (.t 9)) none <| .op (.load false 1 (.t 0)) none <| .op (.bin .gtr (.t 0) (.c (.int .u8 126))) none <| .nx [(.t 0)]) (.c (.bool true)) <| .cond (.t 0) (.ret [(.c (.int .i64 (-1)))]) (.nx [(.t 9), (.t 10)])))) q36_0) (.exit 0 [])
def q36_2 : LC := .ret [(.c (.int .i64 (-1)))]
def q36 : LC := .join [] (.block 0 (.loop [(.t 0), (.c (.int .i64 0))] q36_1)) q36_2
def l36 : LF := ⟨30, 1, [], [.t 0], q36, false⟩
theorem t36 : treeOf Tryd.prog Tryd.f36 (fun _ => 0) (fun d => if d = 0 then [0, 3] else []) false [] 1 100000 q36 = some l36 := by kernel_rfl
/-! wherry/wherryref11.Fold -/
def q37_0 : LC := .op (.lit false 1 1 [.int .u8 0] [(0, 1, (.t 3))]) none <| .op (.app 1 1 (.t 2) (.t 0)) none <| .nx [(.t 2), (.t 0), (.t 4)]
def q37_1 : LC := .op (.bin .add (.t 2) (.c (.int .i64 1))) none <| .nx [(.t 1), (.t 2), (.t 0)]
def q37_2 : LC := .op (.len true (.t 0)) none <| .op (.bin .lss (.t 3) (.t 0)) none <| .cond (.t 0) (.join [0, 3, 4] (.block 1 (.op (.idx (.t 2) (.t 4)) none <| .op (.bin .geq (.t 0) (.c (.int .u8 65))) none <| .sel 2 (.t 0) true (.op (.bin .leq (.t 1) (.c (.int .u8 90))) none <| .nx [(.t 0)]) (.c (.bool false)) <| .join [0, 3, 4, 5] (.cond (.t 0) (.op (.bin .add (.t 2) (.c (.int .u8 32))) none <| .nx [(.t 6), (.t 7), (.t 8), (.t 0)]) (.nx [(.t 5), (.t 6), (.t 7), (.t 2)])) q37_0)) q37_1) (.exit 0 [(.t 3)])
def q37_3 : LC := .op (.b2s (.t 0)) none <| .ret [(.t 0)]
def q37 : LC := .join [3] (.block 0 (.loop [(.t 0), (.c (.sl .nil 0 0 [])), (.c (.int .i64 0))] q37_2)) q37_3
def l37 : LF := ⟨29, 1, [], [.t 0], q37, false⟩
theorem t37 : treeOf Tryd.prog Tryd.f37 (fun d => if d = 3 then 2 else if d = 23 then 2 else if d = 26 then 2 else 0) (fun d => if d = 0 then [0, 3, 4] else []) false [] 1 100000 q37 = some l37 := by kernel_rfl
/-! bytes.HasSuffix -/
def q38 : LC := .op (.len false (.t 0)) none <| .op (.len false (.t 2)) none <| .op (.bin .geq (.t 1) (.t 0)) none <| .sel 9 (.t 0) true (.op (.len false (.t 3)) none <| .op (.len false (.t 5)) none <| .op (.bin .sub (.t 1) (.t 0)) none <| .op (.cut 1 (.t 6) (some (.t 0)) none) none <| .op (.call false false 47 [(.t 0), (.t 8)]) none <| .nx [(.t 0)]) (.c (.bool false)) <| .ret [(.t 0)]
def l38 : LF := ⟨21, 2, [], [.t 0], q38, false⟩
theorem t38 : treeOf Tryd.prog Tryd.f38 (fun _ => 0) (fun _ => []) false [] 2 100000 q38 = some l38 := by kernel_rfl
/-! wherry/dots.end -/
def q39 : LC := .op (.lit false 1 2 [.int .u8 0, .int .u8 0] [(0, 1, (.c (.int .u8 13))), (1, 1, (.c (.int .u8 10)))]) none <| .ret [(.t 0)]
def l39 : LF := ⟨2, 0, [], [.t 0], q39, false⟩
theorem t39 : treeOf Tryd.prog Tryd.f39 (fun _ => 0) (fun _ => []) false [] 0 100000 q39 = some l39 := by kernel_rfl
-- 40 bytes.IndexByte: told otherwise
/-! bytes.Cut -/
def q41 : LC := .op (.call false false 49 [(.t 0), (.t 1)]) none <| .op (.bin .geq (.t 0) (.c (.int .i64 0))) none <| .cond (.t 0) (.op (.cut 1 (.t 2) none (some (.t 1))) none <| .op (.len false (.t 4)) none <| .op (.bin .add (.t 3) (.t 0)) none <| .op (.cut 1 (.t 5) (some (.t 0)) none) none <| .ret [(.t 3), (.t 0), (.c (.bool true))]) (.ret [(.t 2), (.c (.sl .nil 0 0 [])), (.c (.bool false))])
def l41 : LF := ⟨23, 2, [], [.t 0, .t 1, .t 2], q41, false⟩
theorem t41 : treeOf Tryd.prog Tryd.f41 (fun _ => 0) (fun _ => []) false [] 2 100000 q41 = some l41 := by kernel_rfl
-- 42 bytes.Clone: told otherwise
/-! wherry/path.parts -/
def q43 : LC := .op (.box (.t 2)) none <| .op (.len true (.t 1)) none <| .op (.bin .leq (.t 0) (.t 3)) none <| .sel 5 (.t 0) true (.op (.call false false 51 [(.t 3), (.c (.str [46]))]) none <| .op (.clo 52 [(.t 3)]) none <| .op (.call true false 50 [(.t 1), (.t 0)]) none <| .op (.un .not (.t 0)) none <| .nx [(.t 0)]) (.c (.bool false)) <| .ret [(.t 0)]
def l43 : LF := ⟨18, 3, [], [.t 0], q43, false⟩
theorem t43 : treeOf Tryd.prog Tryd.f43 (fun d => if d = 15 then 3 else 0) (fun _ => []) false [] 3 100000 q43 = some l43 := by kernel_rfl
/-! wherry/path.label -/
def q44_0 : LC := .op (.bin .add (.t 2) (.c (.int .i64 1))) none <| .nx [(.t 1), (.t 2), (.t 0)]
def q44_1 : LC := .op (.bin .lss (.t 2) (.t 1)) none <| .cond (.t 0) (.join [0, 5, 6] (.block 1 (.op (.idx (.t 1) (.t 3)) none <| .op (.call false false 53 [(.t 0)]) none <| .op (.un .not (.t 0)) none <| .sel 4 (.t 0) true (.op (.idx (.t 4) (.t 6)) none <| .op (.bin .neq (.t 0) (.c (.int .u8 45))) none <| .nx [(.t 0)]) (.c (.bool false)) <| .cond (.t 0) (.ret [(.c (.bool false))]) (.nx [(.t 5), (.t 6), (.t 7)]))) q44_0) (.exit 0 [(.t 1)])
def q44_2 : LC := .op (.bin .neq (.t 0) (.c (.str []))) none <| .sel 3 (.t 0) true (.op (.len true (.t 1)) none <| .op (.bin .leq (.t 0) (.c (.int .i64 63))) none <| .nx [(.t 0)]) (.c (.bool false)) <| .sel 3 (.t 0) true (.op (.idx (.t 2) (.c (.int .i64 0))) none <| .op (.bin .neq (.t 0) (.c (.int .u8 45))) none <| .nx [(.t 0)]) (.c (.bool false)) <| .sel 6 (.t 0) true (.op (.len true (.t 3)) none <| .op (.bin .sub (.t 0) (.c (.int .i64 1))) none <| .op (.idx (.t 5) (.t 0)) none <| .op (.bin .neq (.t 0) (.c (.int .u8 45))) none <| .nx [(.t 0)]) (.c (.bool false)) <| .ret [(.t 0)]
def q44 : LC := .op (.len true (.t 0)) none <| .join [0] (.block 0 (.loop [(.t 1), (.t 0), (.c (.int .i64 0))] q44_1)) q44_2
def l44 : LF := ⟨41, 1, [], [.t 0], q44, false⟩
theorem t44 : treeOf Tryd.prog Tryd.f44 (fun _ => 0) (fun d => if d = 0 then [0, 5, 6] else []) false [] 1 100000 q44 = some l44 := by kernel_rfl
-- 46 slices.Grow[[]byte,byte]: told otherwise
/-! bytes.Equal -/
def q47 : LC := .op (.b2s (.t 0)) none <| .op (.b2s (.t 2)) none <| .op (.bin .eql (.t 1) (.t 0)) none <| .ret [(.t 0)]
def l47 : LF := ⟨10, 2, [], [.t 0], q47, false⟩
theorem t47 : treeOf Tryd.prog Tryd.f47 (fun _ => 0) (fun _ => []) false [] 2 100000 q47 = some l47 := by kernel_rfl
-- 49 bytes.Index: told otherwise
/-! slices.ContainsFunc[[]string,string] -/
def q50 : LC := .op (.call true false 58 [(.t 0), (.t 1)]) none <| .op (.bin .geq (.t 0) (.c (.int .i64 0))) none <| .ret [(.t 0)]
def l50 : LF := ⟨9, 2, [], [.t 0], q50, false⟩
theorem t50 : treeOf Tryd.prog Tryd.f50 (fun d => if d = 7 then 3 else 0) (fun _ => []) false [] 2 100000 q50 = some l50 := by kernel_rfl
-- 51 strings.Split: told otherwise
/-! wherry/path.parts$1 -/
def q52 : LC := .op (.load false 1 (.t 1)) none <| .op (.callv (.t 0) [(.t 1)]) none <| .op (.un .not (.t 0)) none <| .ret [(.t 0)]
def l52 : LF := ⟨8, 2, [], [.t 0], q52, false⟩
theorem t52 : treeOf Tryd.prog Tryd.f52 (fun _ => 0) (fun _ => []) false [] 2 100000 q52 = some l52 := by kernel_rfl
/-! wherry/path.plain -/
def q53 : LC := .op (.bin .geq (.t 0) (.c (.int .u8 97))) none <| .sel 2 (.t 0) true (.op (.bin .leq (.t 1) (.c (.int .u8 122))) none <| .nx [(.t 0)]) (.c (.bool false)) <| .sel 6 (.t 0) false (.op (.bin .geq (.t 2) (.c (.int .u8 65))) none <| .sel 2 (.t 0) true (.op (.bin .leq (.t 3) (.c (.int .u8 90))) none <| .nx [(.t 0)]) (.c (.bool false)) <| .nx [(.t 0)]) (.c (.bool true)) <| .sel 6 (.t 0) false (.op (.bin .geq (.t 3) (.c (.int .u8 48))) none <| .sel 2 (.t 0) true (.op (.bin .leq (.t 4) (.c (.int .u8 57))) none <| .nx [(.t 0)]) (.c (.bool false)) <| .nx [(.t 0)]) (.c (.bool true)) <| .ret [(.t 0)]
def l53 : LF := ⟨25, 1, [], [.t 0], q53, false⟩
theorem t53 : treeOf Tryd.prog Tryd.f53 (fun _ => 0) (fun _ => []) false [] 1 100000 q53 = some l53 := by kernel_rfl
/-! slices.IndexFunc[[]string,string] -/
def q58_0 : LC := .op (.bin .add (.t 3) (.c (.int .i64 1))) none <| .nx [(.t 1), (.t 2), (.t 3), (.t 0)]
def q58_1 : LC := .op (.bin .lss (.t 3) (.t 2)) none <| .cond (.t 0) (.join [0, 1, 7, 8] (.block 1 (.op (.iad 1 (.t 1) (.t 4)) none <| .op (.load false 1 (.t 0)) none <| .op (.callv (.t 4) [(.t 0)]) none <| .cond (.t 0) (.ret [(.t 7)]) (.nx [(.t 4), (.t 5), (.t 6), (.t 7)]))) q58_0) (.exit 0 [])
def q58_2 : LC := .ret [(.c (.int .i64 (-1)))]
def q58 : LC := .op (.len false (.t 0)) none <| .join [] (.block 0 (.loop [(.t 1), (.t 2), (.t 0), (.c (.int .i64 0))] q58_1)) q58_2
def l58 : LF := ⟨19, 2, [], [.t 0], q58, false⟩
theorem t58 : treeOf Tryd.prog Tryd.f58 (fun _ => 0) (fun d => if d = 0 then [0, 1, 7, 8] else []) false [] 2 100000 q58 = some l58 := by kernel_rfl
def lt : Nat → Option LF
  | 3 => some l3
  | 4 => some l4
  | 5 => some l5
  | 6 => some l6
  | 7 => some l7
  | 8 => some l8
  | 9 => some l9
  | 10 => some l10
  | 11 => some l11
  | 12 => some l12
  | 13 => some l13
  | 14 => some l14
  | 15 => some l15
  | 16 => some l16
  | 17 => some l17
  | 18 => some l18
  | 19 => some l19
  | 20 => some l20
  | 21 => some l21
  | 22 => some l22
  | 23 => some l23
  | 24 => some l24
  | 25 => some l25
  | 26 => some l26
  | 27 => some l27
  | 28 => some l28
  | 30 => some l30
  | 31 => some l31
  | 32 => some l32
  | 33 => some l33
  | 34 => some l34
  | 35 => some l35
  | 36 => some l36
  | 37 => some l37
  | 38 => some l38
  | 39 => some l39
  | 41 => some l41
  | 43 => some l43
  | 44 => some l44
  | 47 => some l47
  | 50 => some l50
  | 52 => some l52
  | 53 => some l53
  | 58 => some l58
  | _ => none
theorem lt_ok : TreeOk Tryd.prog lt := by
  intro f F h
  unfold lt at h
  split at h
  · cases h; exact told_of t3 Tryd.func3 (by kernel_rfl)
  · cases h; exact told_of t4 Tryd.func4 (by kernel_rfl)
  · cases h; exact told_of t5 Tryd.func5 (by kernel_rfl)
  · cases h; exact told_of t6 Tryd.func6 (by kernel_rfl)
  · cases h; exact told_of t7 Tryd.func7 (by kernel_rfl)
  · cases h; exact told_of t8 Tryd.func8 (by kernel_rfl)
  · cases h; exact told_of t9 Tryd.func9 (by kernel_rfl)
  · cases h; exact told_of t10 Tryd.func10 (by kernel_rfl)
  · cases h; exact told_of t11 Tryd.func11 (by kernel_rfl)
  · cases h; exact told_of t12 Tryd.func12 (by kernel_rfl)
  · cases h; exact told_of t13 Tryd.func13 (by kernel_rfl)
  · cases h; exact told_of t14 Tryd.func14 (by kernel_rfl)
  · cases h; exact told_of t15 Tryd.func15 (by kernel_rfl)
  · cases h; exact told_of t16 Tryd.func16 (by kernel_rfl)
  · cases h; exact told_of t17 Tryd.func17 (by kernel_rfl)
  · cases h; exact told_of t18 Tryd.func18 (by kernel_rfl)
  · cases h; exact told_of t19 Tryd.func19 (by kernel_rfl)
  · cases h; exact told_of t20 Tryd.func20 (by kernel_rfl)
  · cases h; exact told_of t21 Tryd.func21 (by kernel_rfl)
  · cases h; exact told_of t22 Tryd.func22 (by kernel_rfl)
  · cases h; exact told_of t23 Tryd.func23 (by kernel_rfl)
  · cases h; exact told_of t24 Tryd.func24 (by kernel_rfl)
  · cases h; exact told_of t25 Tryd.func25 (by kernel_rfl)
  · cases h; exact told_of t26 Tryd.func26 (by kernel_rfl)
  · cases h; exact told_of t27 Tryd.func27 (by kernel_rfl)
  · cases h; exact told_of t28 Tryd.func28 (by kernel_rfl)
  · cases h; exact told_of t30 Tryd.func30 (by kernel_rfl)
  · cases h; exact told_of t31 Tryd.func31 (by kernel_rfl)
  · cases h; exact told_of t32 Tryd.func32 (by kernel_rfl)
  · cases h; exact told_of t33 Tryd.func33 (by kernel_rfl)
  · cases h; exact told_of t34 Tryd.func34 (by kernel_rfl)
  · cases h; exact told_of t35 Tryd.func35 (by kernel_rfl)
  · cases h; exact told_of t36 Tryd.func36 (by kernel_rfl)
  · cases h; exact told_of t37 Tryd.func37 (by kernel_rfl)
  · cases h; exact told_of t38 Tryd.func38 (by kernel_rfl)
  · cases h; exact told_of t39 Tryd.func39 (by kernel_rfl)
  · cases h; exact told_of t41 Tryd.func41 (by kernel_rfl)
  · cases h; exact told_of t43 Tryd.func43 (by kernel_rfl)
  · cases h; exact told_of t44 Tryd.func44 (by kernel_rfl)
  · cases h; exact told_of t47 Tryd.func47 (by kernel_rfl)
  · cases h; exact told_of t50 Tryd.func50 (by kernel_rfl)
  · cases h; exact told_of t52 Tryd.func52 (by kernel_rfl)
  · cases h; exact told_of t53 Tryd.func53 (by kernel_rfl)
  · cases h; exact told_of t58 Tryd.func58 (by kernel_rfl)
  · cases h
end Go.Proofs.YtmdnloajpjfbmaaDoor.Tab
