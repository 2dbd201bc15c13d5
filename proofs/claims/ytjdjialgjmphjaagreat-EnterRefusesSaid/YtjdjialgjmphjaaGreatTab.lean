/- Part of the proof: Tab. -/
import Derived.Test.YtjdjialgjmphjaaGreatS4
import Derived.Test.YtjdjialgjmphjaaGreatProg
set_option linter.all false
set_option maxRecDepth 100000
namespace Go.Proofs
open Go Go.Sep

instance : TyB Tryz.prog 3 8 := ⟨fun w => ⟨_, Tryz.typeInfo3 w, rfl⟩, by decide⟩
instance : TyU Tryz.prog 3 (.int .i64) := ⟨Tryz.underlying3⟩
instance : TyS Tryz.prog 3 1 false := ⟨Tryz.sizeOf3, Tryz.isAgg3⟩
instance : TyZ Tryz.prog 3 (.int .i64 0) := ⟨Tryz.zeroValue3⟩
instance : TyB Tryz.prog 4 1 := ⟨fun w => ⟨_, Tryz.typeInfo4 w, rfl⟩, by decide⟩
instance : TyU Tryz.prog 4 (.bool) := ⟨Tryz.underlying4⟩
instance : TyS Tryz.prog 4 1 false := ⟨Tryz.sizeOf4, Tryz.isAgg4⟩
instance : TyZ Tryz.prog 4 (.bool false) := ⟨Tryz.zeroValue4⟩
instance : TyB Tryz.prog 5 1 := ⟨fun w => ⟨_, Tryz.typeInfo5 w, rfl⟩, by decide⟩
instance : TyU Tryz.prog 5 (.int .u8) := ⟨Tryz.underlying5⟩
instance : TyS Tryz.prog 5 1 false := ⟨Tryz.sizeOf5, Tryz.isAgg5⟩
instance : TyZ Tryz.prog 5 (.int .u8 0) := ⟨Tryz.zeroValue5⟩
instance : TyB Tryz.prog 9 16 := ⟨fun w => ⟨_, Tryz.typeInfo9 w, rfl⟩, by decide⟩
instance : TyS Tryz.prog 9 1 false := ⟨Tryz.sizeOf9, Tryz.isAgg9⟩
instance : TyZ Tryz.prog 9 (.string ⟨#[]⟩) := ⟨Tryz.zeroValue9⟩
instance : TyB Tryz.prog 21 4 := ⟨fun w => ⟨_, Tryz.typeInfo21 w, rfl⟩, by decide⟩
instance : TyU Tryz.prog 21 (.int .i32) := ⟨Tryz.underlying21⟩
instance : TyS Tryz.prog 21 1 false := ⟨Tryz.sizeOf21, Tryz.isAgg21⟩
instance : TyZ Tryz.prog 21 (.int .i32 0) := ⟨Tryz.zeroValue21⟩
instance : TyB Tryz.prog 22 24 := ⟨fun w => ⟨_, Tryz.typeInfo22 w, rfl⟩, by decide⟩
instance : TyU Tryz.prog 22 (.slice 3) := ⟨Tryz.underlying22⟩
instance : TyS Tryz.prog 22 1 false := ⟨Tryz.sizeOf22, Tryz.isAgg22⟩
instance : TyZ Tryz.prog 22 (.slice none 0 0) := ⟨Tryz.zeroValue22⟩
instance : TyB Tryz.prog 23 4 := ⟨fun w => ⟨_, Tryz.typeInfo23 w, rfl⟩, by decide⟩
instance : TyU Tryz.prog 23 (.int .u32) := ⟨Tryz.underlying23⟩
instance : TyS Tryz.prog 23 1 false := ⟨Tryz.sizeOf23, Tryz.isAgg23⟩
instance : TyZ Tryz.prog 23 (.int .u32 0) := ⟨Tryz.zeroValue23⟩
instance : TyB Tryz.prog 25 40 := ⟨fun w => ⟨_, Tryz.typeInfo25 w, rfl⟩, by decide⟩
instance : TyS Tryz.prog 25 8 true := ⟨Tryz.sizeOf25, Tryz.isAgg25⟩
instance : TyZ Tryz.prog 25 (.agg #[.int .i64 0, .int .i64 0, .int .u32 0, .int .u32 0, .int .u32 0, .int .u32 0, .int .u32 0, .int .u32 0]) := ⟨Tryz.zeroValue25⟩
instance : TyB Tryz.prog 27 8 := ⟨fun w => ⟨_, Tryz.typeInfo27 w, rfl⟩, by decide⟩
instance : TyU Tryz.prog 27 (.pointer 29) := ⟨Tryz.underlying27⟩
instance : TyS Tryz.prog 27 1 false := ⟨Tryz.sizeOf27, Tryz.isAgg27⟩
instance : TyZ Tryz.prog 27 (.pointer none) := ⟨Tryz.zeroValue27⟩
instance : TyB Tryz.prog 29 32 := ⟨fun w => ⟨_, Tryz.typeInfo29 w, rfl⟩, by decide⟩
instance : TyS Tryz.prog 29 2 true := ⟨Tryz.sizeOf29, Tryz.isAgg29⟩
instance : TyZ Tryz.prog 29 (.agg #[.slice none 0 0, .int .i64 0]) := ⟨Tryz.zeroValue29⟩
instance : TyB Tryz.prog 31 40 := ⟨fun w => ⟨_, Tryz.typeInfo31 w, rfl⟩, by decide⟩
instance : TyS Tryz.prog 31 5 true := ⟨Tryz.sizeOf31, Tryz.isAgg31⟩
instance : TyZ Tryz.prog 31 (.agg #[.int .i64 0, .int .i64 0, .int .i64 0, .int .i64 0, .bool false]) := ⟨Tryz.zeroValue31⟩
instance : TyB Tryz.prog 33 8 := ⟨fun w => ⟨_, Tryz.typeInfo33 w, rfl⟩, by decide⟩
instance : TyU Tryz.prog 33 (.pointer 260) := ⟨Tryz.underlying33⟩
instance : TyS Tryz.prog 33 1 false := ⟨Tryz.sizeOf33, Tryz.isAgg33⟩
instance : TyZ Tryz.prog 33 (.pointer none) := ⟨Tryz.zeroValue33⟩
instance : TyB Tryz.prog 35 8 := ⟨fun w => ⟨_, Tryz.typeInfo35 w, rfl⟩, by decide⟩
instance : TyU Tryz.prog 35 (.pointer 140) := ⟨Tryz.underlying35⟩
instance : TyS Tryz.prog 35 1 false := ⟨Tryz.sizeOf35, Tryz.isAgg35⟩
instance : TyZ Tryz.prog 35 (.pointer none) := ⟨Tryz.zeroValue35⟩
instance : TyB Tryz.prog 37 8 := ⟨fun w => ⟨_, Tryz.typeInfo37 w, rfl⟩, by decide⟩
instance : TyU Tryz.prog 37 (.pointer 253) := ⟨Tryz.underlying37⟩
instance : TyS Tryz.prog 37 1 false := ⟨Tryz.sizeOf37, Tryz.isAgg37⟩
instance : TyZ Tryz.prog 37 (.pointer none) := ⟨Tryz.zeroValue37⟩
instance : TyB Tryz.prog 41 16 := ⟨fun w => ⟨_, Tryz.typeInfo41 w, rfl⟩, by decide⟩
instance : TyS Tryz.prog 41 2 true := ⟨Tryz.sizeOf41, Tryz.isAgg41⟩
instance : TyZ Tryz.prog 41 (.agg #[.int .i64 0, .int .i64 0]) := ⟨Tryz.zeroValue41⟩
instance : TyB Tryz.prog 55 24 := ⟨fun w => ⟨_, Tryz.typeInfo55 w, rfl⟩, by decide⟩
instance : TyU Tryz.prog 55 (.slice 4) := ⟨Tryz.underlying55⟩
instance : TyS Tryz.prog 55 1 false := ⟨Tryz.sizeOf55, Tryz.isAgg55⟩
instance : TyZ Tryz.prog 55 (.slice none 0 0) := ⟨Tryz.zeroValue55⟩
instance : TyB Tryz.prog 57 24 := ⟨fun w => ⟨_, Tryz.typeInfo57 w, rfl⟩, by decide⟩
instance : TyU Tryz.prog 57 (.slice 5) := ⟨Tryz.underlying57⟩
instance : TyS Tryz.prog 57 1 false := ⟨Tryz.sizeOf57, Tryz.isAgg57⟩
instance : TyZ Tryz.prog 57 (.slice none 0 0) := ⟨Tryz.zeroValue57⟩
instance : TyB Tryz.prog 59 8 := ⟨fun w => ⟨_, Tryz.typeInfo59 w, rfl⟩, by decide⟩
instance : TyU Tryz.prog 59 (.pointer 415) := ⟨Tryz.underlying59⟩
instance : TyS Tryz.prog 59 1 false := ⟨Tryz.sizeOf59, Tryz.isAgg59⟩
instance : TyZ Tryz.prog 59 (.pointer none) := ⟨Tryz.zeroValue59⟩
instance : TyB Tryz.prog 64 24 := ⟨fun w => ⟨_, Tryz.typeInfo64 w, rfl⟩, by decide⟩
instance : TyU Tryz.prog 64 (.slice 73) := ⟨Tryz.underlying64⟩
instance : TyS Tryz.prog 64 1 false := ⟨Tryz.sizeOf64, Tryz.isAgg64⟩
instance : TyZ Tryz.prog 64 (.slice none 0 0) := ⟨Tryz.zeroValue64⟩
instance : TyB Tryz.prog 65 8 := ⟨fun w => ⟨_, Tryz.typeInfo65 w, rfl⟩, by decide⟩
instance : TyU Tryz.prog 65 (.pointer 258) := ⟨Tryz.underlying65⟩
instance : TyS Tryz.prog 65 1 false := ⟨Tryz.sizeOf65, Tryz.isAgg65⟩
instance : TyZ Tryz.prog 65 (.pointer none) := ⟨Tryz.zeroValue65⟩
instance : TyB Tryz.prog 68 24 := ⟨fun w => ⟨_, Tryz.typeInfo68 w, rfl⟩, by decide⟩
instance : TyU Tryz.prog 68 (.slice 210) := ⟨Tryz.underlying68⟩
instance : TyS Tryz.prog 68 1 false := ⟨Tryz.sizeOf68, Tryz.isAgg68⟩
instance : TyZ Tryz.prog 68 (.slice none 0 0) := ⟨Tryz.zeroValue68⟩
instance : TyB Tryz.prog 73 48 := ⟨fun w => ⟨_, Tryz.typeInfo73 w, rfl⟩, by decide⟩
instance : TyS Tryz.prog 73 7 true := ⟨Tryz.sizeOf73, Tryz.isAgg73⟩
instance : TyZ Tryz.prog 73 (.agg #[.int .i64 0, .int .i64 0, .int .u32 0, .int .i64 0, .int .i64 0, .int .u32 0, .bool false]) := ⟨Tryz.zeroValue73⟩
instance : TyB Tryz.prog 74 8 := ⟨fun w => ⟨_, Tryz.typeInfo74 w, rfl⟩, by decide⟩
instance : TyU Tryz.prog 74 (.pointer 341) := ⟨Tryz.underlying74⟩
instance : TyS Tryz.prog 74 1 false := ⟨Tryz.sizeOf74, Tryz.isAgg74⟩
instance : TyZ Tryz.prog 74 (.pointer none) := ⟨Tryz.zeroValue74⟩
instance : TyB Tryz.prog 79 24 := ⟨fun w => ⟨_, Tryz.typeInfo79 w, rfl⟩, by decide⟩
instance : TyU Tryz.prog 79 (.slice 84) := ⟨Tryz.underlying79⟩
instance : TyS Tryz.prog 79 1 false := ⟨Tryz.sizeOf79, Tryz.isAgg79⟩
instance : TyZ Tryz.prog 79 (.slice none 0 0) := ⟨Tryz.zeroValue79⟩
instance : TyB Tryz.prog 84 16 := ⟨fun w => ⟨_, Tryz.typeInfo84 w, rfl⟩, by decide⟩
instance : TyS Tryz.prog 84 4 true := ⟨Tryz.sizeOf84, Tryz.isAgg84⟩
instance : TyZ Tryz.prog 84 (.agg #[.int .u32 0, .int .i32 0, .int .u32 0, .int .u32 0]) := ⟨Tryz.zeroValue84⟩
instance : TyB Tryz.prog 88 24 := ⟨fun w => ⟨_, Tryz.typeInfo88 w, rfl⟩, by decide⟩
instance : TyU Tryz.prog 88 (.slice 25) := ⟨Tryz.underlying88⟩
instance : TyS Tryz.prog 88 1 false := ⟨Tryz.sizeOf88, Tryz.isAgg88⟩
instance : TyZ Tryz.prog 88 (.slice none 0 0) := ⟨Tryz.zeroValue88⟩
instance : TyB Tryz.prog 93 8 := ⟨fun w => ⟨_, Tryz.typeInfo93 w, rfl⟩, by decide⟩
instance : TyU Tryz.prog 93 (.int .u64) := ⟨Tryz.underlying93⟩
instance : TyS Tryz.prog 93 1 false := ⟨Tryz.sizeOf93, Tryz.isAgg93⟩
instance : TyZ Tryz.prog 93 (.int .u64 0) := ⟨Tryz.zeroValue93⟩
instance : TyB Tryz.prog 97 8 := ⟨fun w => ⟨_, Tryz.typeInfo97 w, rfl⟩, by decide⟩
instance : TyU Tryz.prog 97 (.pointer 241) := ⟨Tryz.underlying97⟩
instance : TyS Tryz.prog 97 1 false := ⟨Tryz.sizeOf97, Tryz.isAgg97⟩
instance : TyZ Tryz.prog 97 (.pointer none) := ⟨Tryz.zeroValue97⟩
instance : TyB Tryz.prog 101 16 := ⟨fun w => ⟨_, Tryz.typeInfo101 w, rfl⟩, by decide⟩
instance : TyS Tryz.prog 101 2 true := ⟨Tryz.sizeOf101, Tryz.isAgg101⟩
instance : TyZ Tryz.prog 101 (.agg #[.int .i64 0, .int .i64 0]) := ⟨Tryz.zeroValue101⟩
instance : TyB Tryz.prog 103 40 := ⟨fun w => ⟨_, Tryz.typeInfo103 w, rfl⟩, by decide⟩
instance : TyS Tryz.prog 103 5 true := ⟨Tryz.sizeOf103, Tryz.isAgg103⟩
instance : TyZ Tryz.prog 103 (.agg #[.int .i64 0, .int .i64 0, .int .i64 0, .int .i64 0, .int .i64 0]) := ⟨Tryz.zeroValue103⟩
instance : TyB Tryz.prog 105 8 := ⟨fun w => ⟨_, Tryz.typeInfo105 w, rfl⟩, by decide⟩
instance : TyU Tryz.prog 105 (.pointer 263) := ⟨Tryz.underlying105⟩
instance : TyS Tryz.prog 105 1 false := ⟨Tryz.sizeOf105, Tryz.isAgg105⟩
instance : TyZ Tryz.prog 105 (.pointer none) := ⟨Tryz.zeroValue105⟩
instance : TyB Tryz.prog 107 24 := ⟨fun w => ⟨_, Tryz.typeInfo107 w, rfl⟩, by decide⟩
instance : TyU Tryz.prog 107 (.slice 358) := ⟨Tryz.underlying107⟩
instance : TyS Tryz.prog 107 1 false := ⟨Tryz.sizeOf107, Tryz.isAgg107⟩
instance : TyZ Tryz.prog 107 (.slice none 0 0) := ⟨Tryz.zeroValue107⟩
instance : TyB Tryz.prog 109 8 := ⟨fun w => ⟨_, Tryz.typeInfo109 w, rfl⟩, by decide⟩
instance : TyU Tryz.prog 109 (.pointer 256) := ⟨Tryz.underlying109⟩
instance : TyS Tryz.prog 109 1 false := ⟨Tryz.sizeOf109, Tryz.isAgg109⟩
instance : TyZ Tryz.prog 109 (.pointer none) := ⟨Tryz.zeroValue109⟩
instance : TyB Tryz.prog 113 24 := ⟨fun w => ⟨_, Tryz.typeInfo113 w, rfl⟩, by decide⟩
instance : TyU Tryz.prog 113 (.slice 115) := ⟨Tryz.underlying113⟩
instance : TyS Tryz.prog 113 1 false := ⟨Tryz.sizeOf113, Tryz.isAgg113⟩
instance : TyZ Tryz.prog 113 (.slice none 0 0) := ⟨Tryz.zeroValue113⟩
instance : TyB Tryz.prog 115 48 := ⟨fun w => ⟨_, Tryz.typeInfo115 w, rfl⟩, by decide⟩
instance : TyS Tryz.prog 115 4 true := ⟨Tryz.sizeOf115, Tryz.isAgg115⟩
instance : TyZ Tryz.prog 115 (.agg #[.int .i64 0, .int .i64 0, .int .i64 0, .slice none 0 0]) := ⟨Tryz.zeroValue115⟩
instance : TyB Tryz.prog 116 8 := ⟨fun w => ⟨_, Tryz.typeInfo116 w, rfl⟩, by decide⟩
instance : TyU Tryz.prog 116 (.pointer 371) := ⟨Tryz.underlying116⟩
instance : TyS Tryz.prog 116 1 false := ⟨Tryz.sizeOf116, Tryz.isAgg116⟩
instance : TyZ Tryz.prog 116 (.pointer none) := ⟨Tryz.zeroValue116⟩
instance : TyB Tryz.prog 117 24 := ⟨fun w => ⟨_, Tryz.typeInfo117 w, rfl⟩, by decide⟩
instance : TyU Tryz.prog 117 (.slice 424) := ⟨Tryz.underlying117⟩
instance : TyS Tryz.prog 117 1 false := ⟨Tryz.sizeOf117, Tryz.isAgg117⟩
instance : TyZ Tryz.prog 117 (.slice none 0 0) := ⟨Tryz.zeroValue117⟩
instance : TyB Tryz.prog 119 24 := ⟨fun w => ⟨_, Tryz.typeInfo119 w, rfl⟩, by decide⟩
instance : TyS Tryz.prog 119 1 true := ⟨Tryz.sizeOf119, Tryz.isAgg119⟩
instance : TyZ Tryz.prog 119 (.agg #[.slice none 0 0]) := ⟨Tryz.zeroValue119⟩
instance : TyB Tryz.prog 120 24 := ⟨fun w => ⟨_, Tryz.typeInfo120 w, rfl⟩, by decide⟩
instance : TyU Tryz.prog 120 (.slice 481) := ⟨Tryz.underlying120⟩
instance : TyS Tryz.prog 120 1 false := ⟨Tryz.sizeOf120, Tryz.isAgg120⟩
instance : TyZ Tryz.prog 120 (.slice none 0 0) := ⟨Tryz.zeroValue120⟩
instance : TyB Tryz.prog 122 24 := ⟨fun w => ⟨_, Tryz.typeInfo122 w, rfl⟩, by decide⟩
instance : TyS Tryz.prog 122 1 true := ⟨Tryz.sizeOf122, Tryz.isAgg122⟩
instance : TyZ Tryz.prog 122 (.agg #[.slice none 0 0]) := ⟨Tryz.zeroValue122⟩
instance : TyB Tryz.prog 123 24 := ⟨fun w => ⟨_, Tryz.typeInfo123 w, rfl⟩, by decide⟩
instance : TyU Tryz.prog 123 (.slice 428) := ⟨Tryz.underlying123⟩
instance : TyS Tryz.prog 123 1 false := ⟨Tryz.sizeOf123, Tryz.isAgg123⟩
instance : TyZ Tryz.prog 123 (.slice none 0 0) := ⟨Tryz.zeroValue123⟩
instance : TyB Tryz.prog 125 24 := ⟨fun w => ⟨_, Tryz.typeInfo125 w, rfl⟩, by decide⟩
instance : TyS Tryz.prog 125 1 true := ⟨Tryz.sizeOf125, Tryz.isAgg125⟩
instance : TyZ Tryz.prog 125 (.agg #[.slice none 0 0]) := ⟨Tryz.zeroValue125⟩
instance : TyB Tryz.prog 126 24 := ⟨fun w => ⟨_, Tryz.typeInfo126 w, rfl⟩, by decide⟩
instance : TyU Tryz.prog 126 (.slice 431) := ⟨Tryz.underlying126⟩
instance : TyS Tryz.prog 126 1 false := ⟨Tryz.sizeOf126, Tryz.isAgg126⟩
instance : TyZ Tryz.prog 126 (.slice none 0 0) := ⟨Tryz.zeroValue126⟩
instance : TyB Tryz.prog 128 24 := ⟨fun w => ⟨_, Tryz.typeInfo128 w, rfl⟩, by decide⟩
instance : TyS Tryz.prog 128 1 true := ⟨Tryz.sizeOf128, Tryz.isAgg128⟩
instance : TyZ Tryz.prog 128 (.agg #[.slice none 0 0]) := ⟨Tryz.zeroValue128⟩
instance : TyB Tryz.prog 129 24 := ⟨fun w => ⟨_, Tryz.typeInfo129 w, rfl⟩, by decide⟩
instance : TyU Tryz.prog 129 (.slice 299) := ⟨Tryz.underlying129⟩
instance : TyS Tryz.prog 129 1 false := ⟨Tryz.sizeOf129, Tryz.isAgg129⟩
instance : TyZ Tryz.prog 129 (.slice none 0 0) := ⟨Tryz.zeroValue129⟩
instance : TyB Tryz.prog 131 24 := ⟨fun w => ⟨_, Tryz.typeInfo131 w, rfl⟩, by decide⟩
instance : TyS Tryz.prog 131 1 true := ⟨Tryz.sizeOf131, Tryz.isAgg131⟩
instance : TyZ Tryz.prog 131 (.agg #[.slice none 0 0]) := ⟨Tryz.zeroValue131⟩
instance : TyB Tryz.prog 132 24 := ⟨fun w => ⟨_, Tryz.typeInfo132 w, rfl⟩, by decide⟩
instance : TyU Tryz.prog 132 (.slice 479) := ⟨Tryz.underlying132⟩
instance : TyS Tryz.prog 132 1 false := ⟨Tryz.sizeOf132, Tryz.isAgg132⟩
instance : TyZ Tryz.prog 132 (.slice none 0 0) := ⟨Tryz.zeroValue132⟩
instance : TyB Tryz.prog 134 24 := ⟨fun w => ⟨_, Tryz.typeInfo134 w, rfl⟩, by decide⟩
instance : TyS Tryz.prog 134 1 true := ⟨Tryz.sizeOf134, Tryz.isAgg134⟩
instance : TyZ Tryz.prog 134 (.agg #[.slice none 0 0]) := ⟨Tryz.zeroValue134⟩
instance : TyB Tryz.prog 136 24 := ⟨fun w => ⟨_, Tryz.typeInfo136 w, rfl⟩, by decide⟩
instance : TyS Tryz.prog 136 1 true := ⟨Tryz.sizeOf136, Tryz.isAgg136⟩
instance : TyZ Tryz.prog 136 (.agg #[.slice none 0 0]) := ⟨Tryz.zeroValue136⟩
instance : TyB Tryz.prog 137 24 := ⟨fun w => ⟨_, Tryz.typeInfo137 w, rfl⟩, by decide⟩
instance : TyU Tryz.prog 137 (.slice 282) := ⟨Tryz.underlying137⟩
instance : TyS Tryz.prog 137 1 false := ⟨Tryz.sizeOf137, Tryz.isAgg137⟩
instance : TyZ Tryz.prog 137 (.slice none 0 0) := ⟨Tryz.zeroValue137⟩
instance : TyB Tryz.prog 138 24 := ⟨fun w => ⟨_, Tryz.typeInfo138 w, rfl⟩, by decide⟩
instance : TyU Tryz.prog 138 (.slice 274) := ⟨Tryz.underlying138⟩
instance : TyS Tryz.prog 138 1 false := ⟨Tryz.sizeOf138, Tryz.isAgg138⟩
instance : TyZ Tryz.prog 138 (.slice none 0 0) := ⟨Tryz.zeroValue138⟩
instance : TyB Tryz.prog 140 296 := ⟨fun w => ⟨_, Tryz.typeInfo140 w, rfl⟩, by decide⟩
instance : TyS Tryz.prog 140 17 true := ⟨Tryz.sizeOf140, Tryz.isAgg140⟩
instance : TyZ Tryz.prog 140 (.agg #[.int .i64 0, .int .i64 0, .int .i64 0, .int .i64 0, .bool false, .pointer none, .slice none 0 0, .slice none 0 0, .slice none 0 0, .slice none 0 0, .slice none 0 0, .slice none 0 0, .slice none 0 0, .int .u64 0, .slice none 0 0, .slice none 0 0, .slice none 0 0]) := ⟨Tryz.zeroValue140⟩
instance : TyB Tryz.prog 143 8 := ⟨fun w => ⟨_, Tryz.typeInfo143 w, rfl⟩, by decide⟩
instance : TyU Tryz.prog 143 (.pointer 146) := ⟨Tryz.underlying143⟩
instance : TyS Tryz.prog 143 1 false := ⟨Tryz.sizeOf143, Tryz.isAgg143⟩
instance : TyZ Tryz.prog 143 (.pointer none) := ⟨Tryz.zeroValue143⟩
instance : TyB Tryz.prog 146 72 := ⟨fun w => ⟨_, Tryz.typeInfo146 w, rfl⟩, by decide⟩
instance : TyS Tryz.prog 146 8 true := ⟨Tryz.sizeOf146, Tryz.isAgg146⟩
instance : TyZ Tryz.prog 146 (.agg #[.pointer none, .int .i64 0, .int .i64 0, .int .i64 0, .int .i64 0, .int .u32 0, .int .u32 0, .slice none 0 0]) := ⟨Tryz.zeroValue146⟩
instance : TyB Tryz.prog 148 8 := ⟨fun w => ⟨_, Tryz.typeInfo148 w, rfl⟩, by decide⟩
instance : TyU Tryz.prog 148 (.pointer 373) := ⟨Tryz.underlying148⟩
instance : TyS Tryz.prog 148 1 false := ⟨Tryz.sizeOf148, Tryz.isAgg148⟩
instance : TyZ Tryz.prog 148 (.pointer none) := ⟨Tryz.zeroValue148⟩
instance : TyB Tryz.prog 152 40 := ⟨fun w => ⟨_, Tryz.typeInfo152 w, rfl⟩, by decide⟩
instance : TyS Tryz.prog 152 3 true := ⟨Tryz.sizeOf152, Tryz.isAgg152⟩
instance : TyZ Tryz.prog 152 (.agg #[.int .i64 0, .int .i64 0, .slice none 0 0]) := ⟨Tryz.zeroValue152⟩
instance : TyB Tryz.prog 160 24 := ⟨fun w => ⟨_, Tryz.typeInfo160 w, rfl⟩, by decide⟩
instance : TyU Tryz.prog 160 (.slice 167) := ⟨Tryz.underlying160⟩
instance : TyS Tryz.prog 160 1 false := ⟨Tryz.sizeOf160, Tryz.isAgg160⟩
instance : TyZ Tryz.prog 160 (.slice none 0 0) := ⟨Tryz.zeroValue160⟩
instance : TyB Tryz.prog 163 8 := ⟨fun w => ⟨_, Tryz.typeInfo163 w, rfl⟩, by decide⟩
instance : TyU Tryz.prog 163 (.pointer 169) := ⟨Tryz.underlying163⟩
instance : TyS Tryz.prog 163 1 false := ⟨Tryz.sizeOf163, Tryz.isAgg163⟩
instance : TyZ Tryz.prog 163 (.pointer none) := ⟨Tryz.zeroValue163⟩
instance : TyB Tryz.prog 167 72 := ⟨fun w => ⟨_, Tryz.typeInfo167 w, rfl⟩, by decide⟩
instance : TyS Tryz.prog 167 5 true := ⟨Tryz.sizeOf167, Tryz.isAgg167⟩
instance : TyZ Tryz.prog 167 (.agg #[.int .i64 0, .int .i64 0, .slice none 0 0, .slice none 0 0, .int .i64 0]) := ⟨Tryz.zeroValue167⟩
instance : TyB Tryz.prog 169 16 := ⟨fun w => ⟨_, Tryz.typeInfo169 w, rfl⟩, by decide⟩
instance : TyS Tryz.prog 169 2 true := ⟨Tryz.sizeOf169, Tryz.isAgg169⟩
instance : TyZ Tryz.prog 169 (.agg #[.pointer none, .int .i64 0]) := ⟨Tryz.zeroValue169⟩
instance : TyB Tryz.prog 171 24 := ⟨fun w => ⟨_, Tryz.typeInfo171 w, rfl⟩, by decide⟩
instance : TyU Tryz.prog 171 (.slice 152) := ⟨Tryz.underlying171⟩
instance : TyS Tryz.prog 171 1 false := ⟨Tryz.sizeOf171, Tryz.isAgg171⟩
instance : TyZ Tryz.prog 171 (.slice none 0 0) := ⟨Tryz.zeroValue171⟩
instance : TyB Tryz.prog 176 24 := ⟨fun w => ⟨_, Tryz.typeInfo176 w, rfl⟩, by decide⟩
instance : TyS Tryz.prog 176 3 true := ⟨Tryz.sizeOf176, Tryz.isAgg176⟩
instance : TyZ Tryz.prog 176 (.agg #[.int .i64 0, .int .i64 0, .int .i64 0]) := ⟨Tryz.zeroValue176⟩
instance : TyB Tryz.prog 177 72 := ⟨fun w => ⟨_, Tryz.typeInfo177 w, rfl⟩, by decide⟩
instance : TyS Tryz.prog 177 9 true := ⟨Tryz.sizeOf177, Tryz.isAgg177⟩
instance : TyZ Tryz.prog 177 (.agg #[.int .i64 0, .int .i64 0, .int .i64 0, .int .i64 0, .int .i64 0, .int .i64 0, .int .i64 0, .int .i64 0, .int .i64 0]) := ⟨Tryz.zeroValue177⟩
instance : TyB Tryz.prog 179 64 := ⟨fun w => ⟨_, Tryz.typeInfo179 w, rfl⟩, by decide⟩
instance : TyS Tryz.prog 179 8 true := ⟨Tryz.sizeOf179, Tryz.isAgg179⟩
instance : TyZ Tryz.prog 179 (.agg #[.int .i64 0, .int .i64 0, .int .i64 0, .int .i64 0, .int .i64 0, .int .i64 0, .int .i64 0, .int .i64 0]) := ⟨Tryz.zeroValue179⟩
instance : TyB Tryz.prog 185 32 := ⟨fun w => ⟨_, Tryz.typeInfo185 w, rfl⟩, by decide⟩
instance : TyS Tryz.prog 185 4 true := ⟨Tryz.sizeOf185, Tryz.isAgg185⟩
instance : TyZ Tryz.prog 185 (.agg #[.int .i64 0, .int .i64 0, .int .i64 0, .int .i64 0]) := ⟨Tryz.zeroValue185⟩
instance : TyB Tryz.prog 188 24 := ⟨fun w => ⟨_, Tryz.typeInfo188 w, rfl⟩, by decide⟩
instance : TyU Tryz.prog 188 (.slice 195) := ⟨Tryz.underlying188⟩
instance : TyS Tryz.prog 188 1 false := ⟨Tryz.sizeOf188, Tryz.isAgg188⟩
instance : TyZ Tryz.prog 188 (.slice none 0 0) := ⟨Tryz.zeroValue188⟩
instance : TyB Tryz.prog 195 16 := ⟨fun w => ⟨_, Tryz.typeInfo195 w, rfl⟩, by decide⟩
instance : TyS Tryz.prog 195 2 true := ⟨Tryz.sizeOf195, Tryz.isAgg195⟩
instance : TyZ Tryz.prog 195 (.agg #[.int .i64 0, .int .i64 0]) := ⟨Tryz.zeroValue195⟩
instance : TyB Tryz.prog 197 24 := ⟨fun w => ⟨_, Tryz.typeInfo197 w, rfl⟩, by decide⟩
instance : TyU Tryz.prog 197 (.slice 101) := ⟨Tryz.underlying197⟩
instance : TyS Tryz.prog 197 1 false := ⟨Tryz.sizeOf197, Tryz.isAgg197⟩
instance : TyZ Tryz.prog 197 (.slice none 0 0) := ⟨Tryz.zeroValue197⟩
instance : TyB Tryz.prog 200 24 := ⟨fun w => ⟨_, Tryz.typeInfo200 w, rfl⟩, by decide⟩
instance : TyU Tryz.prog 200 (.slice 287) := ⟨Tryz.underlying200⟩
instance : TyS Tryz.prog 200 1 false := ⟨Tryz.sizeOf200, Tryz.isAgg200⟩
instance : TyZ Tryz.prog 200 (.slice none 0 0) := ⟨Tryz.zeroValue200⟩
instance : TyB Tryz.prog 201 8 := ⟨fun w => ⟨_, Tryz.typeInfo201 w, rfl⟩, by decide⟩
instance : TyU Tryz.prog 201 (.pointer 247) := ⟨Tryz.underlying201⟩
instance : TyS Tryz.prog 201 1 false := ⟨Tryz.sizeOf201, Tryz.isAgg201⟩
instance : TyZ Tryz.prog 201 (.pointer none) := ⟨Tryz.zeroValue201⟩
instance : TyB Tryz.prog 210 72 := ⟨fun w => ⟨_, Tryz.typeInfo210 w, rfl⟩, by decide⟩
instance : TyS Tryz.prog 210 13 true := ⟨Tryz.sizeOf210, Tryz.isAgg210⟩
instance : TyZ Tryz.prog 210 (.agg #[.int .i64 0, .int .i64 0, .int .i64 0, .int .i64 0, .int .u32 0, .int .u32 0, .int .u32 0, .int .u32 0, .int .u32 0, .int .u32 0, .int .i64 0, .bool false, .bool false]) := ⟨Tryz.zeroValue210⟩
instance : TyB Tryz.prog 212 24 := ⟨fun w => ⟨_, Tryz.typeInfo212 w, rfl⟩, by decide⟩
instance : TyU Tryz.prog 212 (.slice 23) := ⟨Tryz.underlying212⟩
instance : TyS Tryz.prog 212 1 false := ⟨Tryz.sizeOf212, Tryz.isAgg212⟩
instance : TyZ Tryz.prog 212 (.slice none 0 0) := ⟨Tryz.zeroValue212⟩
instance : TyB Tryz.prog 231 8 := ⟨fun w => ⟨_, Tryz.typeInfo231 w, rfl⟩, by decide⟩
instance : TyU Tryz.prog 231 (.map 3 264) := ⟨Tryz.underlying231⟩
instance : TyS Tryz.prog 231 1 false := ⟨Tryz.sizeOf231, Tryz.isAgg231⟩
instance : TyZ Tryz.prog 231 (.map none) := ⟨Tryz.zeroValue231⟩
instance : TyB Tryz.prog 232 8 := ⟨fun w => ⟨_, Tryz.typeInfo232 w, rfl⟩, by decide⟩
instance : TyU Tryz.prog 232 (.map 3 105) := ⟨Tryz.underlying232⟩
instance : TyS Tryz.prog 232 1 false := ⟨Tryz.sizeOf232, Tryz.isAgg232⟩
instance : TyZ Tryz.prog 232 (.map none) := ⟨Tryz.zeroValue232⟩
instance : TyB Tryz.prog 233 8 := ⟨fun w => ⟨_, Tryz.typeInfo233 w, rfl⟩, by decide⟩
instance : TyU Tryz.prog 233 (.map 3 352) := ⟨Tryz.underlying233⟩
instance : TyS Tryz.prog 233 1 false := ⟨Tryz.sizeOf233, Tryz.isAgg233⟩
instance : TyZ Tryz.prog 233 (.map none) := ⟨Tryz.zeroValue233⟩
instance : TyB Tryz.prog 234 8 := ⟨fun w => ⟨_, Tryz.typeInfo234 w, rfl⟩, by decide⟩
instance : TyU Tryz.prog 234 (.map 3 74) := ⟨Tryz.underlying234⟩
instance : TyS Tryz.prog 234 1 false := ⟨Tryz.sizeOf234, Tryz.isAgg234⟩
instance : TyZ Tryz.prog 234 (.map none) := ⟨Tryz.zeroValue234⟩
instance : TyB Tryz.prog 235 8 := ⟨fun w => ⟨_, Tryz.typeInfo235 w, rfl⟩, by decide⟩
instance : TyU Tryz.prog 235 (.map 3 179) := ⟨Tryz.underlying235⟩
instance : TyS Tryz.prog 235 1 false := ⟨Tryz.sizeOf235, Tryz.isAgg235⟩
instance : TyZ Tryz.prog 235 (.map none) := ⟨Tryz.zeroValue235⟩
instance : TyB Tryz.prog 236 8 := ⟨fun w => ⟨_, Tryz.typeInfo236 w, rfl⟩, by decide⟩
instance : TyU Tryz.prog 236 (.map 3 4) := ⟨Tryz.underlying236⟩
instance : TyS Tryz.prog 236 1 false := ⟨Tryz.sizeOf236, Tryz.isAgg236⟩
instance : TyZ Tryz.prog 236 (.map none) := ⟨Tryz.zeroValue236⟩
instance : TyB Tryz.prog 237 8 := ⟨fun w => ⟨_, Tryz.typeInfo237 w, rfl⟩, by decide⟩
instance : TyU Tryz.prog 237 (.map 3 3) := ⟨Tryz.underlying237⟩
instance : TyS Tryz.prog 237 1 false := ⟨Tryz.sizeOf237, Tryz.isAgg237⟩
instance : TyZ Tryz.prog 237 (.map none) := ⟨Tryz.zeroValue237⟩
instance : TyB Tryz.prog 238 8 := ⟨fun w => ⟨_, Tryz.typeInfo238 w, rfl⟩, by decide⟩
instance : TyU Tryz.prog 238 (.map 3 418) := ⟨Tryz.underlying238⟩
instance : TyS Tryz.prog 238 1 false := ⟨Tryz.sizeOf238, Tryz.isAgg238⟩
instance : TyZ Tryz.prog 238 (.map none) := ⟨Tryz.zeroValue238⟩
instance : TyB Tryz.prog 239 8 := ⟨fun w => ⟨_, Tryz.typeInfo239 w, rfl⟩, by decide⟩
instance : TyU Tryz.prog 239 (.map 101 351) := ⟨Tryz.underlying239⟩
instance : TyS Tryz.prog 239 1 false := ⟨Tryz.sizeOf239, Tryz.isAgg239⟩
instance : TyZ Tryz.prog 239 (.map none) := ⟨Tryz.zeroValue239⟩
instance : TyB Tryz.prog 241 8 := ⟨fun w => ⟨_, Tryz.typeInfo241 w, rfl⟩, by decide⟩
instance : TyS Tryz.prog 241 1 true := ⟨Tryz.sizeOf241, Tryz.isAgg241⟩
instance : TyZ Tryz.prog 241 (.agg #[.map none]) := ⟨Tryz.zeroValue241⟩
instance : TyB Tryz.prog 242 8 := ⟨fun w => ⟨_, Tryz.typeInfo242 w, rfl⟩, by decide⟩
instance : TyU Tryz.prog 242 (.map 331 3) := ⟨Tryz.underlying242⟩
instance : TyS Tryz.prog 242 1 false := ⟨Tryz.sizeOf242, Tryz.isAgg242⟩
instance : TyZ Tryz.prog 242 (.map none) := ⟨Tryz.zeroValue242⟩
instance : TyB Tryz.prog 244 8 := ⟨fun w => ⟨_, Tryz.typeInfo244 w, rfl⟩, by decide⟩
instance : TyS Tryz.prog 244 1 true := ⟨Tryz.sizeOf244, Tryz.isAgg244⟩
instance : TyZ Tryz.prog 244 (.agg #[.map none]) := ⟨Tryz.zeroValue244⟩
instance : TyB Tryz.prog 245 8 := ⟨fun w => ⟨_, Tryz.typeInfo245 w, rfl⟩, by decide⟩
instance : TyU Tryz.prog 245 (.map 287 289) := ⟨Tryz.underlying245⟩
instance : TyS Tryz.prog 245 1 false := ⟨Tryz.sizeOf245, Tryz.isAgg245⟩
instance : TyZ Tryz.prog 245 (.map none) := ⟨Tryz.zeroValue245⟩
instance : TyB Tryz.prog 247 8 := ⟨fun w => ⟨_, Tryz.typeInfo247 w, rfl⟩, by decide⟩
instance : TyS Tryz.prog 247 1 true := ⟨Tryz.sizeOf247, Tryz.isAgg247⟩
instance : TyZ Tryz.prog 247 (.agg #[.map none]) := ⟨Tryz.zeroValue247⟩
instance : TyB Tryz.prog 248 24 := ⟨fun w => ⟨_, Tryz.typeInfo248 w, rfl⟩, by decide⟩
instance : TyU Tryz.prog 248 (.slice 474) := ⟨Tryz.underlying248⟩
instance : TyS Tryz.prog 248 1 false := ⟨Tryz.sizeOf248, Tryz.isAgg248⟩
instance : TyZ Tryz.prog 248 (.slice none 0 0) := ⟨Tryz.zeroValue248⟩
instance : TyB Tryz.prog 250 24 := ⟨fun w => ⟨_, Tryz.typeInfo250 w, rfl⟩, by decide⟩
instance : TyS Tryz.prog 250 1 true := ⟨Tryz.sizeOf250, Tryz.isAgg250⟩
instance : TyZ Tryz.prog 250 (.agg #[.slice none 0 0]) := ⟨Tryz.zeroValue250⟩
instance : TyB Tryz.prog 251 8 := ⟨fun w => ⟨_, Tryz.typeInfo251 w, rfl⟩, by decide⟩
instance : TyU Tryz.prog 251 (.map 41 210) := ⟨Tryz.underlying251⟩
instance : TyS Tryz.prog 251 1 false := ⟨Tryz.sizeOf251, Tryz.isAgg251⟩
instance : TyZ Tryz.prog 251 (.map none) := ⟨Tryz.zeroValue251⟩
instance : TyB Tryz.prog 253 8 := ⟨fun w => ⟨_, Tryz.typeInfo253 w, rfl⟩, by decide⟩
instance : TyS Tryz.prog 253 1 true := ⟨Tryz.sizeOf253, Tryz.isAgg253⟩
instance : TyZ Tryz.prog 253 (.agg #[.map none]) := ⟨Tryz.zeroValue253⟩
instance : TyB Tryz.prog 254 24 := ⟨fun w => ⟨_, Tryz.typeInfo254 w, rfl⟩, by decide⟩
instance : TyU Tryz.prog 254 (.slice 477) := ⟨Tryz.underlying254⟩
instance : TyS Tryz.prog 254 1 false := ⟨Tryz.sizeOf254, Tryz.isAgg254⟩
instance : TyZ Tryz.prog 254 (.slice none 0 0) := ⟨Tryz.zeroValue254⟩
instance : TyB Tryz.prog 256 24 := ⟨fun w => ⟨_, Tryz.typeInfo256 w, rfl⟩, by decide⟩
instance : TyS Tryz.prog 256 1 true := ⟨Tryz.sizeOf256, Tryz.isAgg256⟩
instance : TyZ Tryz.prog 256 (.agg #[.slice none 0 0]) := ⟨Tryz.zeroValue256⟩
instance : TyB Tryz.prog 258 24 := ⟨fun w => ⟨_, Tryz.typeInfo258 w, rfl⟩, by decide⟩
instance : TyS Tryz.prog 258 1 true := ⟨Tryz.sizeOf258, Tryz.isAgg258⟩
instance : TyZ Tryz.prog 258 (.agg #[.slice none 0 0]) := ⟨Tryz.zeroValue258⟩
instance : TyB Tryz.prog 260 232 := ⟨fun w => ⟨_, Tryz.typeInfo260 w, rfl⟩, by decide⟩
instance : TyS Tryz.prog 260 23 true := ⟨Tryz.sizeOf260, Tryz.isAgg260⟩
instance : TyZ Tryz.prog 260 (.agg #[.int .i64 0, .int .i64 0, .int .i64 0, .int .i64 0, .bool false, .pointer none, .map none, .map none, .map none, .slice none 0 0, .map none, .slice none 0 0, .slice none 0 0, .map none, .map none, .map none, .map none, .map none, .map none, .map none, .map none, .map none, .int .u64 0]) := ⟨Tryz.zeroValue260⟩
instance : TyB Tryz.prog 261 24 := ⟨fun w => ⟨_, Tryz.typeInfo261 w, rfl⟩, by decide⟩
instance : TyU Tryz.prog 261 (.slice 487) := ⟨Tryz.underlying261⟩
instance : TyS Tryz.prog 261 1 false := ⟨Tryz.sizeOf261, Tryz.isAgg261⟩
instance : TyZ Tryz.prog 261 (.slice none 0 0) := ⟨Tryz.zeroValue261⟩
instance : TyB Tryz.prog 263 48 := ⟨fun w => ⟨_, Tryz.typeInfo263 w, rfl⟩, by decide⟩
instance : TyS Tryz.prog 263 2 true := ⟨Tryz.sizeOf263, Tryz.isAgg263⟩
instance : TyZ Tryz.prog 263 (.agg #[.slice none 0 0, .slice none 0 0]) := ⟨Tryz.zeroValue263⟩
instance : TyB Tryz.prog 264 8 := ⟨fun w => ⟨_, Tryz.typeInfo264 w, rfl⟩, by decide⟩
instance : TyU Tryz.prog 264 (.pointer 270) := ⟨Tryz.underlying264⟩
instance : TyS Tryz.prog 264 1 false := ⟨Tryz.sizeOf264, Tryz.isAgg264⟩
instance : TyZ Tryz.prog 264 (.pointer none) := ⟨Tryz.zeroValue264⟩
instance : TyB Tryz.prog 265 24 := ⟨fun w => ⟨_, Tryz.typeInfo265 w, rfl⟩, by decide⟩
instance : TyU Tryz.prog 265 (.slice 41) := ⟨Tryz.underlying265⟩
instance : TyS Tryz.prog 265 1 false := ⟨Tryz.sizeOf265, Tryz.isAgg265⟩
instance : TyZ Tryz.prog 265 (.slice none 0 0) := ⟨Tryz.zeroValue265⟩
instance : TyB Tryz.prog 266 8 := ⟨fun w => ⟨_, Tryz.typeInfo266 w, rfl⟩, by decide⟩
instance : TyU Tryz.prog 266 (.map 41 4) := ⟨Tryz.underlying266⟩
instance : TyS Tryz.prog 266 1 false := ⟨Tryz.sizeOf266, Tryz.isAgg266⟩
instance : TyZ Tryz.prog 266 (.map none) := ⟨Tryz.zeroValue266⟩
instance : TyB Tryz.prog 268 32 := ⟨fun w => ⟨_, Tryz.typeInfo268 w, rfl⟩, by decide⟩
instance : TyS Tryz.prog 268 2 true := ⟨Tryz.sizeOf268, Tryz.isAgg268⟩
instance : TyZ Tryz.prog 268 (.agg #[.slice none 0 0, .map none]) := ⟨Tryz.zeroValue268⟩
instance : TyB Tryz.prog 270 40 := ⟨fun w => ⟨_, Tryz.typeInfo270 w, rfl⟩, by decide⟩
instance : TyS Tryz.prog 270 3 true := ⟨Tryz.sizeOf270, Tryz.isAgg270⟩
instance : TyZ Tryz.prog 270 (.agg #[.int .u32 0, .slice none 0 0, .map none]) := ⟨Tryz.zeroValue270⟩
instance : TyB Tryz.prog 274 32 := ⟨fun w => ⟨_, Tryz.typeInfo274 w, rfl⟩, by decide⟩
instance : TyS Tryz.prog 274 4 true := ⟨Tryz.sizeOf274, Tryz.isAgg274⟩
instance : TyZ Tryz.prog 274 (.agg #[.int .i64 0, .int .i64 0, .int .i64 0, .int .u32 0]) := ⟨Tryz.zeroValue274⟩
instance : TyB Tryz.prog 275 8 := ⟨fun w => ⟨_, Tryz.typeInfo275 w, rfl⟩, by decide⟩
instance : TyU Tryz.prog 275 (.int .u64) := ⟨Tryz.underlying275⟩
instance : TyS Tryz.prog 275 1 false := ⟨Tryz.sizeOf275, Tryz.isAgg275⟩
instance : TyZ Tryz.prog 275 (.int .u64 0) := ⟨Tryz.zeroValue275⟩
instance : TyB Tryz.prog 277 64 := ⟨fun w => ⟨_, Tryz.typeInfo277 w, rfl⟩, by decide⟩
instance : TyS Tryz.prog 277 8 true := ⟨Tryz.sizeOf277, Tryz.isAgg277⟩
instance : TyZ Tryz.prog 277 (.agg #[.int .i64 0, .int .i64 0, .int .i64 0, .int .i64 0, .int .i64 0, .int .i64 0, .int .i64 0, .int .i64 0]) := ⟨Tryz.zeroValue277⟩
instance : TyB Tryz.prog 278 8 := ⟨fun w => ⟨_, Tryz.typeInfo278 w, rfl⟩, by decide⟩
instance : TyU Tryz.prog 278 (.pointer 297) := ⟨Tryz.underlying278⟩
instance : TyS Tryz.prog 278 1 false := ⟨Tryz.sizeOf278, Tryz.isAgg278⟩
instance : TyZ Tryz.prog 278 (.pointer none) := ⟨Tryz.zeroValue278⟩
instance : TyB Tryz.prog 279 8 := ⟨fun w => ⟨_, Tryz.typeInfo279 w, rfl⟩, by decide⟩
instance : TyU Tryz.prog 279 (.pointer 293) := ⟨Tryz.underlying279⟩
instance : TyS Tryz.prog 279 1 false := ⟨Tryz.sizeOf279, Tryz.isAgg279⟩
instance : TyZ Tryz.prog 279 (.pointer none) := ⟨Tryz.zeroValue279⟩
instance : TyB Tryz.prog 280 8 := ⟨fun w => ⟨_, Tryz.typeInfo280 w, rfl⟩, by decide⟩
instance : TyU Tryz.prog 280 (.pointer 284) := ⟨Tryz.underlying280⟩
instance : TyS Tryz.prog 280 1 false := ⟨Tryz.sizeOf280, Tryz.isAgg280⟩
instance : TyZ Tryz.prog 280 (.pointer none) := ⟨Tryz.zeroValue280⟩
instance : TyB Tryz.prog 282 112 := ⟨fun w => ⟨_, Tryz.typeInfo282 w, rfl⟩, by decide⟩
instance : TyS Tryz.prog 282 14 true := ⟨Tryz.sizeOf282, Tryz.isAgg282⟩
instance : TyZ Tryz.prog 282 (.agg #[.int .i64 0, .pointer none, .pointer none, .pointer none, .pointer none, .int .i64 0, .int .i64 0, .int .i64 0, .int .i64 0, .int .i64 0, .int .i64 0, .int .i64 0, .int .i64 0, .int .i64 0]) := ⟨Tryz.zeroValue282⟩
instance : TyB Tryz.prog 284 24 := ⟨fun w => ⟨_, Tryz.typeInfo284 w, rfl⟩, by decide⟩
instance : TyS Tryz.prog 284 3 true := ⟨Tryz.sizeOf284, Tryz.isAgg284⟩
instance : TyZ Tryz.prog 284 (.agg #[.int .i64 0, .int .i64 0, .bool false]) := ⟨Tryz.zeroValue284⟩
instance : TyB Tryz.prog 287 16 := ⟨fun w => ⟨_, Tryz.typeInfo287 w, rfl⟩, by decide⟩
instance : TyS Tryz.prog 287 2 true := ⟨Tryz.sizeOf287, Tryz.isAgg287⟩
instance : TyZ Tryz.prog 287 (.agg #[.int .i64 0, .int .i64 0]) := ⟨Tryz.zeroValue287⟩
instance : TyB Tryz.prog 289 16 := ⟨fun w => ⟨_, Tryz.typeInfo289 w, rfl⟩, by decide⟩
instance : TyS Tryz.prog 289 2 true := ⟨Tryz.sizeOf289, Tryz.isAgg289⟩
instance : TyZ Tryz.prog 289 (.agg #[.int .i64 0, .int .i64 0]) := ⟨Tryz.zeroValue289⟩
instance : TyB Tryz.prog 290 24 := ⟨fun w => ⟨_, Tryz.typeInfo290 w, rfl⟩, by decide⟩
instance : TyU Tryz.prog 290 (.slice 460) := ⟨Tryz.underlying290⟩
instance : TyS Tryz.prog 290 1 false := ⟨Tryz.sizeOf290, Tryz.isAgg290⟩
instance : TyZ Tryz.prog 290 (.slice none 0 0) := ⟨Tryz.zeroValue290⟩
instance : TyB Tryz.prog 291 24 := ⟨fun w => ⟨_, Tryz.typeInfo291 w, rfl⟩, by decide⟩
instance : TyU Tryz.prog 291 (.slice 456) := ⟨Tryz.underlying291⟩
instance : TyS Tryz.prog 291 1 false := ⟨Tryz.sizeOf291, Tryz.isAgg291⟩
instance : TyZ Tryz.prog 291 (.slice none 0 0) := ⟨Tryz.zeroValue291⟩
instance : TyB Tryz.prog 293 48 := ⟨fun w => ⟨_, Tryz.typeInfo293 w, rfl⟩, by decide⟩
instance : TyS Tryz.prog 293 2 true := ⟨Tryz.sizeOf293, Tryz.isAgg293⟩
instance : TyZ Tryz.prog 293 (.agg #[.slice none 0 0, .slice none 0 0]) := ⟨Tryz.zeroValue293⟩
instance : TyB Tryz.prog 295 24 := ⟨fun w => ⟨_, Tryz.typeInfo295 w, rfl⟩, by decide⟩
instance : TyS Tryz.prog 295 1 true := ⟨Tryz.sizeOf295, Tryz.isAgg295⟩
instance : TyZ Tryz.prog 295 (.agg #[.slice none 0 0]) := ⟨Tryz.zeroValue295⟩
instance : TyB Tryz.prog 297 32 := ⟨fun w => ⟨_, Tryz.typeInfo297 w, rfl⟩, by decide⟩
instance : TyS Tryz.prog 297 2 true := ⟨Tryz.sizeOf297, Tryz.isAgg297⟩
instance : TyZ Tryz.prog 297 (.agg #[.int .u32 0, .slice none 0 0]) := ⟨Tryz.zeroValue297⟩
instance : TyB Tryz.prog 299 72 := ⟨fun w => ⟨_, Tryz.typeInfo299 w, rfl⟩, by decide⟩
instance : TyS Tryz.prog 299 13 true := ⟨Tryz.sizeOf299, Tryz.isAgg299⟩
instance : TyZ Tryz.prog 299 (.agg #[.int .i64 0, .int .i64 0, .int .i64 0, .int .i64 0, .int .u32 0, .int .u32 0, .int .u32 0, .int .u32 0, .int .u32 0, .int .u32 0, .int .i64 0, .bool false, .bool false]) := ⟨Tryz.zeroValue299⟩
instance : TyB Tryz.prog 308 16 := ⟨fun w => ⟨_, Tryz.typeInfo308 w, rfl⟩, by decide⟩
instance : TyS Tryz.prog 308 3 true := ⟨Tryz.sizeOf308, Tryz.isAgg308⟩
instance : TyZ Tryz.prog 308 (.agg #[.int .i64 0, .int .u32 0, .bool false]) := ⟨Tryz.zeroValue308⟩
instance : TyB Tryz.prog 309 8 := ⟨fun w => ⟨_, Tryz.typeInfo309 w, rfl⟩, by decide⟩
instance : TyU Tryz.prog 309 (.pointer 311) := ⟨Tryz.underlying309⟩
instance : TyS Tryz.prog 309 1 false := ⟨Tryz.sizeOf309, Tryz.isAgg309⟩
instance : TyZ Tryz.prog 309 (.pointer none) := ⟨Tryz.zeroValue309⟩
instance : TyB Tryz.prog 311 160 := ⟨fun w => ⟨_, Tryz.typeInfo311 w, rfl⟩, by decide⟩
instance : TyS Tryz.prog 311 24 true := ⟨Tryz.sizeOf311, Tryz.isAgg311⟩
instance : TyZ Tryz.prog 311 (.agg #[.pointer none, .int .i64 0, .int .i64 0, .int .i64 0, .int .i64 0, .int .i64 0, .int .i64 0, .int .i64 0, .int .i64 0, .int .i64 0, .int .i64 0, .int .i64 0, .int .i64 0, .int .u32 0, .int .u32 0, .int .u32 0, .int .u32 0, .int .u32 0, .int .u32 0, .int .i64 0, .bool false, .bool false, .int .i64 0, .int .i64 0]) := ⟨Tryz.zeroValue311⟩
instance : TyB Tryz.prog 315 8 := ⟨fun w => ⟨_, Tryz.typeInfo315 w, rfl⟩, by decide⟩
instance : TyU Tryz.prog 315 (.pointer 317) := ⟨Tryz.underlying315⟩
instance : TyS Tryz.prog 315 1 false := ⟨Tryz.sizeOf315, Tryz.isAgg315⟩
instance : TyZ Tryz.prog 315 (.pointer none) := ⟨Tryz.zeroValue315⟩
instance : TyB Tryz.prog 317 144 := ⟨fun w => ⟨_, Tryz.typeInfo317 w, rfl⟩, by decide⟩
instance : TyS Tryz.prog 317 22 true := ⟨Tryz.sizeOf317, Tryz.isAgg317⟩
instance : TyZ Tryz.prog 317 (.agg #[.pointer none, .int .i64 0, .int .i64 0, .int .i64 0, .int .i64 0, .int .u32 0, .int .u32 0, .int .u32 0, .int .u32 0, .int .u32 0, .int .u32 0, .int .i64 0, .bool false, .bool false, .int .i64 0, .int .i64 0, .int .i64 0, .int .i64 0, .int .i64 0, .int .i64 0, .int .i64 0, .int .i64 0]) := ⟨Tryz.zeroValue317⟩
instance : TyB Tryz.prog 322 8 := ⟨fun w => ⟨_, Tryz.typeInfo322 w, rfl⟩, by decide⟩
instance : TyU Tryz.prog 322 (.pointer 250) := ⟨Tryz.underlying322⟩
instance : TyS Tryz.prog 322 1 false := ⟨Tryz.sizeOf322, Tryz.isAgg322⟩
instance : TyZ Tryz.prog 322 (.pointer none) := ⟨Tryz.zeroValue322⟩
instance : TyB Tryz.prog 324 8 := ⟨fun w => ⟨_, Tryz.typeInfo324 w, rfl⟩, by decide⟩
instance : TyU Tryz.prog 324 (.pointer 244) := ⟨Tryz.underlying324⟩
instance : TyS Tryz.prog 324 1 false := ⟨Tryz.sizeOf324, Tryz.isAgg324⟩
instance : TyZ Tryz.prog 324 (.pointer none) := ⟨Tryz.zeroValue324⟩
instance : TyB Tryz.prog 331 16 := ⟨fun w => ⟨_, Tryz.typeInfo331 w, rfl⟩, by decide⟩
instance : TyS Tryz.prog 331 2 true := ⟨Tryz.sizeOf331, Tryz.isAgg331⟩
instance : TyZ Tryz.prog 331 (.agg #[.int .i64 0, .int .i64 0]) := ⟨Tryz.zeroValue331⟩
instance : TyB Tryz.prog 341 72 := ⟨fun w => ⟨_, Tryz.typeInfo341 w, rfl⟩, by decide⟩
instance : TyS Tryz.prog 341 8 true := ⟨Tryz.sizeOf341, Tryz.isAgg341⟩
instance : TyZ Tryz.prog 341 (.agg #[.pointer none, .int .i64 0, .int .i64 0, .int .i64 0, .int .i64 0, .int .u32 0, .int .u32 0, .slice none 0 0]) := ⟨Tryz.zeroValue341⟩
instance : TyB Tryz.prog 351 56 := ⟨fun w => ⟨_, Tryz.typeInfo351 w, rfl⟩, by decide⟩
instance : TyS Tryz.prog 351 7 true := ⟨Tryz.sizeOf351, Tryz.isAgg351⟩
instance : TyZ Tryz.prog 351 (.agg #[.int .i64 0, .int .i64 0, .int .i64 0, .int .i64 0, .int .i64 0, .int .i64 0, .int .i64 0]) := ⟨Tryz.zeroValue351⟩
instance : TyB Tryz.prog 352 8 := ⟨fun w => ⟨_, Tryz.typeInfo352 w, rfl⟩, by decide⟩
instance : TyU Tryz.prog 352 (.pointer 354) := ⟨Tryz.underlying352⟩
instance : TyS Tryz.prog 352 1 false := ⟨Tryz.sizeOf352, Tryz.isAgg352⟩
instance : TyZ Tryz.prog 352 (.pointer none) := ⟨Tryz.zeroValue352⟩
instance : TyB Tryz.prog 354 24 := ⟨fun w => ⟨_, Tryz.typeInfo354 w, rfl⟩, by decide⟩
instance : TyS Tryz.prog 354 3 true := ⟨Tryz.sizeOf354, Tryz.isAgg354⟩
instance : TyZ Tryz.prog 354 (.agg #[.int .i64 0, .int .i64 0, .bool false]) := ⟨Tryz.zeroValue354⟩
instance : TyB Tryz.prog 358 24 := ⟨fun w => ⟨_, Tryz.typeInfo358 w, rfl⟩, by decide⟩
instance : TyS Tryz.prog 358 3 true := ⟨Tryz.sizeOf358, Tryz.isAgg358⟩
instance : TyZ Tryz.prog 358 (.agg #[.int .i64 0, .int .i64 0, .int .i64 0]) := ⟨Tryz.zeroValue358⟩
instance : TyB Tryz.prog 359 24 := ⟨fun w => ⟨_, Tryz.typeInfo359 w, rfl⟩, by decide⟩
instance : TyU Tryz.prog 359 (.slice 57) := ⟨Tryz.underlying359⟩
instance : TyS Tryz.prog 359 1 false := ⟨Tryz.sizeOf359, Tryz.isAgg359⟩
instance : TyZ Tryz.prog 359 (.slice none 0 0) := ⟨Tryz.zeroValue359⟩
instance : TyB Tryz.prog 371 24 := ⟨fun w => ⟨_, Tryz.typeInfo371 w, rfl⟩, by decide⟩
instance : TyS Tryz.prog 371 1 true := ⟨Tryz.sizeOf371, Tryz.isAgg371⟩
instance : TyZ Tryz.prog 371 (.agg #[.slice none 0 0]) := ⟨Tryz.zeroValue371⟩
instance : TyB Tryz.prog 373 16 := ⟨fun w => ⟨_, Tryz.typeInfo373 w, rfl⟩, by decide⟩
instance : TyS Tryz.prog 373 2 true := ⟨Tryz.sizeOf373, Tryz.isAgg373⟩
instance : TyZ Tryz.prog 373 (.agg #[.pointer none, .int .i64 0]) := ⟨Tryz.zeroValue373⟩
instance : TyB Tryz.prog 387 8 := ⟨fun w => ⟨_, Tryz.typeInfo387 w, rfl⟩, by decide⟩
instance : TyU Tryz.prog 387 (.map 195 4) := ⟨Tryz.underlying387⟩
instance : TyS Tryz.prog 387 1 false := ⟨Tryz.sizeOf387, Tryz.isAgg387⟩
instance : TyZ Tryz.prog 387 (.map none) := ⟨Tryz.zeroValue387⟩
instance : TyB Tryz.prog 406 16 := ⟨fun w => ⟨_, Tryz.typeInfo406 w, rfl⟩, by decide⟩
instance : TyS Tryz.prog 406 2 true := ⟨Tryz.sizeOf406, Tryz.isAgg406⟩
instance : TyZ Tryz.prog 406 (.agg #[.pointer none, .pointer none]) := ⟨Tryz.zeroValue406⟩
instance : TyB Tryz.prog 407 8 := ⟨fun w => ⟨_, Tryz.typeInfo407 w, rfl⟩, by decide⟩
instance : TyS Tryz.prog 407 2 true := ⟨Tryz.sizeOf407, Tryz.isAgg407⟩
instance : TyZ Tryz.prog 407 (.agg #[.int .u32 0, .int .u32 0]) := ⟨Tryz.zeroValue407⟩
instance : TyB Tryz.prog 409 24 := ⟨fun w => ⟨_, Tryz.typeInfo409 w, rfl⟩, by decide⟩
instance : TyU Tryz.prog 409 (.slice 88) := ⟨Tryz.underlying409⟩
instance : TyS Tryz.prog 409 1 false := ⟨Tryz.sizeOf409, Tryz.isAgg409⟩
instance : TyZ Tryz.prog 409 (.slice none 0 0) := ⟨Tryz.zeroValue409⟩
instance : TyB Tryz.prog 415 24 := ⟨fun w => ⟨_, Tryz.typeInfo415 w, rfl⟩, by decide⟩
instance : TyS Tryz.prog 415 1 true := ⟨Tryz.sizeOf415, Tryz.isAgg415⟩
instance : TyZ Tryz.prog 415 (.agg #[.slice none 0 0]) := ⟨Tryz.zeroValue415⟩
instance : TyB Tryz.prog 416 24 := ⟨fun w => ⟨_, Tryz.typeInfo416 w, rfl⟩, by decide⟩
instance : TyU Tryz.prog 416 (.slice 103) := ⟨Tryz.underlying416⟩
instance : TyS Tryz.prog 416 1 false := ⟨Tryz.sizeOf416, Tryz.isAgg416⟩
instance : TyZ Tryz.prog 416 (.slice none 0 0) := ⟨Tryz.zeroValue416⟩
instance : TyB Tryz.prog 418 16 := ⟨fun w => ⟨_, Tryz.typeInfo418 w, rfl⟩, by decide⟩
instance : TyS Tryz.prog 418 2 true := ⟨Tryz.sizeOf418, Tryz.isAgg418⟩
instance : TyZ Tryz.prog 418 (.agg #[.int .i64 0, .int .u32 0]) := ⟨Tryz.zeroValue418⟩
instance : TyB Tryz.prog 420 8 := ⟨fun w => ⟨_, Tryz.typeInfo420 w, rfl⟩, by decide⟩
instance : TyU Tryz.prog 420 (.pointer 119) := ⟨Tryz.underlying420⟩
instance : TyS Tryz.prog 420 1 false := ⟨Tryz.sizeOf420, Tryz.isAgg420⟩
instance : TyZ Tryz.prog 420 (.pointer none) := ⟨Tryz.zeroValue420⟩
instance : TyB Tryz.prog 424 72 := ⟨fun w => ⟨_, Tryz.typeInfo424 w, rfl⟩, by decide⟩
instance : TyS Tryz.prog 424 9 true := ⟨Tryz.sizeOf424, Tryz.isAgg424⟩
instance : TyZ Tryz.prog 424 (.agg #[.int .i64 0, .int .i64 0, .int .i64 0, .int .i64 0, .int .i64 0, .int .i64 0, .int .i64 0, .int .i64 0, .int .i64 0]) := ⟨Tryz.zeroValue424⟩
instance : TyB Tryz.prog 425 8 := ⟨fun w => ⟨_, Tryz.typeInfo425 w, rfl⟩, by decide⟩
instance : TyU Tryz.prog 425 (.pointer 125) := ⟨Tryz.underlying425⟩
instance : TyS Tryz.prog 425 1 false := ⟨Tryz.sizeOf425, Tryz.isAgg425⟩
instance : TyZ Tryz.prog 425 (.pointer none) := ⟨Tryz.zeroValue425⟩
instance : TyB Tryz.prog 428 32 := ⟨fun w => ⟨_, Tryz.typeInfo428 w, rfl⟩, by decide⟩
instance : TyS Tryz.prog 428 4 true := ⟨Tryz.sizeOf428, Tryz.isAgg428⟩
instance : TyZ Tryz.prog 428 (.agg #[.int .i64 0, .int .i64 0, .int .i64 0, .int .i64 0]) := ⟨Tryz.zeroValue428⟩
instance : TyB Tryz.prog 429 8 := ⟨fun w => ⟨_, Tryz.typeInfo429 w, rfl⟩, by decide⟩
instance : TyU Tryz.prog 429 (.pointer 128) := ⟨Tryz.underlying429⟩
instance : TyS Tryz.prog 429 1 false := ⟨Tryz.sizeOf429, Tryz.isAgg429⟩
instance : TyZ Tryz.prog 429 (.pointer none) := ⟨Tryz.zeroValue429⟩
instance : TyB Tryz.prog 431 16 := ⟨fun w => ⟨_, Tryz.typeInfo431 w, rfl⟩, by decide⟩
instance : TyS Tryz.prog 431 2 true := ⟨Tryz.sizeOf431, Tryz.isAgg431⟩
instance : TyZ Tryz.prog 431 (.agg #[.int .i64 0, .int .i64 0]) := ⟨Tryz.zeroValue431⟩
instance : TyB Tryz.prog 432 8 := ⟨fun w => ⟨_, Tryz.typeInfo432 w, rfl⟩, by decide⟩
instance : TyU Tryz.prog 432 (.pointer 131) := ⟨Tryz.underlying432⟩
instance : TyS Tryz.prog 432 1 false := ⟨Tryz.sizeOf432, Tryz.isAgg432⟩
instance : TyZ Tryz.prog 432 (.pointer none) := ⟨Tryz.zeroValue432⟩
instance : TyB Tryz.prog 452 8 := ⟨fun w => ⟨_, Tryz.typeInfo452 w, rfl⟩, by decide⟩
instance : TyU Tryz.prog 452 (.pointer 122) := ⟨Tryz.underlying452⟩
instance : TyS Tryz.prog 452 1 false := ⟨Tryz.sizeOf452, Tryz.isAgg452⟩
instance : TyZ Tryz.prog 452 (.pointer none) := ⟨Tryz.zeroValue452⟩
instance : TyB Tryz.prog 456 24 := ⟨fun w => ⟨_, Tryz.typeInfo456 w, rfl⟩, by decide⟩
instance : TyS Tryz.prog 456 3 true := ⟨Tryz.sizeOf456, Tryz.isAgg456⟩
instance : TyZ Tryz.prog 456 (.agg #[.int .i64 0, .int .i64 0, .int .i64 0]) := ⟨Tryz.zeroValue456⟩
instance : TyB Tryz.prog 460 40 := ⟨fun w => ⟨_, Tryz.typeInfo460 w, rfl⟩, by decide⟩
instance : TyS Tryz.prog 460 5 true := ⟨Tryz.sizeOf460, Tryz.isAgg460⟩
instance : TyZ Tryz.prog 460 (.agg #[.int .i64 0, .int .i64 0, .int .u32 0, .int .i64 0, .bool false]) := ⟨Tryz.zeroValue460⟩
instance : TyB Tryz.prog 474 16 := ⟨fun w => ⟨_, Tryz.typeInfo474 w, rfl⟩, by decide⟩
instance : TyS Tryz.prog 474 2 true := ⟨Tryz.sizeOf474, Tryz.isAgg474⟩
instance : TyZ Tryz.prog 474 (.agg #[.int .i64 0, .int .i64 0]) := ⟨Tryz.zeroValue474⟩
instance : TyB Tryz.prog 475 8 := ⟨fun w => ⟨_, Tryz.typeInfo475 w, rfl⟩, by decide⟩
instance : TyU Tryz.prog 475 (.pointer 134) := ⟨Tryz.underlying475⟩
instance : TyS Tryz.prog 475 1 false := ⟨Tryz.sizeOf475, Tryz.isAgg475⟩
instance : TyZ Tryz.prog 475 (.pointer none) := ⟨Tryz.zeroValue475⟩
instance : TyB Tryz.prog 477 24 := ⟨fun w => ⟨_, Tryz.typeInfo477 w, rfl⟩, by decide⟩
instance : TyS Tryz.prog 477 3 true := ⟨Tryz.sizeOf477, Tryz.isAgg477⟩
instance : TyZ Tryz.prog 477 (.agg #[.int .u64 0, .int .i64 0, .int .i64 0]) := ⟨Tryz.zeroValue477⟩
instance : TyB Tryz.prog 479 24 := ⟨fun w => ⟨_, Tryz.typeInfo479 w, rfl⟩, by decide⟩
instance : TyS Tryz.prog 479 3 true := ⟨Tryz.sizeOf479, Tryz.isAgg479⟩
instance : TyZ Tryz.prog 479 (.agg #[.int .u64 0, .int .i64 0, .int .i64 0]) := ⟨Tryz.zeroValue479⟩
instance : TyB Tryz.prog 481 24 := ⟨fun w => ⟨_, Tryz.typeInfo481 w, rfl⟩, by decide⟩
instance : TyS Tryz.prog 481 3 true := ⟨Tryz.sizeOf481, Tryz.isAgg481⟩
instance : TyZ Tryz.prog 481 (.agg #[.int .i64 0, .int .i64 0, .int .i64 0]) := ⟨Tryz.zeroValue481⟩
instance : TyB Tryz.prog 487 40 := ⟨fun w => ⟨_, Tryz.typeInfo487 w, rfl⟩, by decide⟩
instance : TyS Tryz.prog 487 5 true := ⟨Tryz.sizeOf487, Tryz.isAgg487⟩
instance : TyZ Tryz.prog 487 (.agg #[.int .i64 0, .int .i64 0, .int .u32 0, .int .i64 0, .bool false]) := ⟨Tryz.zeroValue487⟩
instance : TyB Tryz.prog 500 16 := ⟨fun w => ⟨_, Tryz.typeInfo500 w, rfl⟩, by decide⟩
instance : TyS Tryz.prog 500 2 true := ⟨Tryz.sizeOf500, Tryz.isAgg500⟩
instance : TyZ Tryz.prog 500 (.agg #[.int .i64 0, .int .u32 0]) := ⟨Tryz.zeroValue500⟩
instance : TyB Tryz.prog 501 96 := ⟨fun w => ⟨_, Tryz.typeInfo501 w, rfl⟩, by decide⟩
instance : TyS Tryz.prog 501 12 true := ⟨Tryz.sizeOf501, Tryz.isAgg501⟩
instance : TyZ Tryz.prog 501 (.agg #[.int .i64 0, .int .u32 0, .int .i64 0, .int .u32 0, .int .i64 0, .int .u32 0, .int .i64 0, .int .u32 0, .int .i64 0, .int .u32 0, .int .i64 0, .int .u32 0]) := ⟨Tryz.zeroValue501⟩
instance : TyB Tryz.prog 505 8 := ⟨fun w => ⟨_, Tryz.typeInfo505 w, rfl⟩, by decide⟩
instance : TyU Tryz.prog 505 (.pointer 136) := ⟨Tryz.underlying505⟩
instance : TyS Tryz.prog 505 1 false := ⟨Tryz.sizeOf505, Tryz.isAgg505⟩
instance : TyZ Tryz.prog 505 (.pointer none) := ⟨Tryz.zeroValue505⟩
instance : TyB Tryz.prog 545 8 := ⟨fun w => ⟨_, Tryz.typeInfo545 w, rfl⟩, by decide⟩
instance : TyU Tryz.prog 545 (.int .i64) := ⟨Tryz.underlying545⟩
instance : TyS Tryz.prog 545 1 false := ⟨Tryz.sizeOf545, Tryz.isAgg545⟩
instance : TyZ Tryz.prog 545 (.int .i64 0) := ⟨Tryz.zeroValue545⟩
instance : TyB Tryz.prog 571 8 := ⟨fun w => ⟨_, Tryz.typeInfo571 w, rfl⟩, by decide⟩
instance : TyU Tryz.prog 571 (.pointer 295) := ⟨Tryz.underlying571⟩
instance : TyS Tryz.prog 571 1 false := ⟨Tryz.sizeOf571, Tryz.isAgg571⟩
instance : TyZ Tryz.prog 571 (.pointer none) := ⟨Tryz.zeroValue571⟩
instance : TyB Tryz.prog 583 8 := ⟨fun w => ⟨_, Tryz.typeInfo583 w, rfl⟩, by decide⟩
instance : TyU Tryz.prog 583 (.pointer 268) := ⟨Tryz.underlying583⟩
instance : TyS Tryz.prog 583 1 false := ⟨Tryz.sizeOf583, Tryz.isAgg583⟩
instance : TyZ Tryz.prog 583 (.pointer none) := ⟨Tryz.zeroValue583⟩
instance : TyB Tryz.prog 584 8 := ⟨fun w => ⟨_, Tryz.typeInfo584 w, rfl⟩, by decide⟩
instance : TyU Tryz.prog 584 (.int .u64) := ⟨Tryz.underlying584⟩
instance : TyS Tryz.prog 584 1 false := ⟨Tryz.sizeOf584, Tryz.isAgg584⟩
instance : TyZ Tryz.prog 584 (.int .u64 0) := ⟨Tryz.zeroValue584⟩
instance : TyB Tryz.prog 587 8 := ⟨fun w => ⟨_, Tryz.typeInfo587 w, rfl⟩, by decide⟩
instance : TyU Tryz.prog 587 (.pointer 3) := ⟨Tryz.underlying587⟩
instance : TyS Tryz.prog 587 1 false := ⟨Tryz.sizeOf587, Tryz.isAgg587⟩
instance : TyZ Tryz.prog 587 (.pointer none) := ⟨Tryz.zeroValue587⟩
instance : TyB Tryz.prog 617 8 := ⟨fun w => ⟨_, Tryz.typeInfo617 w, rfl⟩, by decide⟩
instance : TyU Tryz.prog 617 (.pointer 584) := ⟨Tryz.underlying617⟩
instance : TyS Tryz.prog 617 1 false := ⟨Tryz.sizeOf617, Tryz.isAgg617⟩
instance : TyZ Tryz.prog 617 (.pointer none) := ⟨Tryz.zeroValue617⟩
instance : Fld Tryz.prog 25 0 0 1 false where
  at_ := fun b o w => by simp [Instr.fieldAt, Tryz.runUnderlying25, Tryz.sizeOf3, fieldPlace, Instr.sureAddr, addr_add]
  of_ := fun vs w => by simp [Instr.field, Tryz.runUnderlying25, part, asAgg, Tryz.isAgg3]; cases vs[0]? <;> simp
instance : Fld Tryz.prog 25 1 1 1 false where
  at_ := fun b o w => by simp [Instr.fieldAt, Tryz.runUnderlying25, Tryz.sizeOf3, fieldPlace, Instr.sureAddr, addr_add]
  of_ := fun vs w => by simp [Instr.field, Tryz.runUnderlying25, part, asAgg, Tryz.isAgg3]; cases vs[1]? <;> simp
instance : Fld Tryz.prog 25 2 2 1 false where
  at_ := fun b o w => by simp [Instr.fieldAt, Tryz.runUnderlying25, Tryz.sizeOf23, fieldPlace, Instr.sureAddr, addr_add]
  of_ := fun vs w => by simp [Instr.field, Tryz.runUnderlying25, part, asAgg, Tryz.isAgg23]; cases vs[2]? <;> simp
instance : Fld Tryz.prog 25 3 3 1 false where
  at_ := fun b o w => by simp [Instr.fieldAt, Tryz.runUnderlying25, Tryz.sizeOf23, fieldPlace, Instr.sureAddr, addr_add]
  of_ := fun vs w => by simp [Instr.field, Tryz.runUnderlying25, part, asAgg, Tryz.isAgg23]; cases vs[3]? <;> simp
instance : Fld Tryz.prog 25 4 4 1 false where
  at_ := fun b o w => by simp [Instr.fieldAt, Tryz.runUnderlying25, Tryz.sizeOf23, fieldPlace, Instr.sureAddr, addr_add]
  of_ := fun vs w => by simp [Instr.field, Tryz.runUnderlying25, part, asAgg, Tryz.isAgg23]; cases vs[4]? <;> simp
instance : Fld Tryz.prog 25 5 5 1 false where
  at_ := fun b o w => by simp [Instr.fieldAt, Tryz.runUnderlying25, Tryz.sizeOf23, fieldPlace, Instr.sureAddr, addr_add]
  of_ := fun vs w => by simp [Instr.field, Tryz.runUnderlying25, part, asAgg, Tryz.isAgg23]; cases vs[5]? <;> simp
instance : Fld Tryz.prog 25 6 6 1 false where
  at_ := fun b o w => by simp [Instr.fieldAt, Tryz.runUnderlying25, Tryz.sizeOf23, fieldPlace, Instr.sureAddr, addr_add]
  of_ := fun vs w => by simp [Instr.field, Tryz.runUnderlying25, part, asAgg, Tryz.isAgg23]; cases vs[6]? <;> simp
instance : Fld Tryz.prog 25 7 7 1 false where
  at_ := fun b o w => by simp [Instr.fieldAt, Tryz.runUnderlying25, Tryz.sizeOf23, fieldPlace, Instr.sureAddr, addr_add]
  of_ := fun vs w => by simp [Instr.field, Tryz.runUnderlying25, part, asAgg, Tryz.isAgg23]; cases vs[7]? <;> simp
instance : Fld Tryz.prog 29 0 0 1 false where
  at_ := fun b o w => by simp [Instr.fieldAt, Tryz.runUnderlying29, Tryz.sizeOf22, fieldPlace, Instr.sureAddr, addr_add]
  of_ := fun vs w => by simp [Instr.field, Tryz.runUnderlying29, part, asAgg, Tryz.isAgg22]; cases vs[0]? <;> simp
instance : Fld Tryz.prog 29 1 1 1 false where
  at_ := fun b o w => by simp [Instr.fieldAt, Tryz.runUnderlying29, Tryz.sizeOf3, fieldPlace, Instr.sureAddr, addr_add]
  of_ := fun vs w => by simp [Instr.field, Tryz.runUnderlying29, part, asAgg, Tryz.isAgg3]; cases vs[1]? <;> simp
instance : Fld Tryz.prog 31 0 0 1 false where
  at_ := fun b o w => by simp [Instr.fieldAt, Tryz.runUnderlying31, Tryz.sizeOf3, fieldPlace, Instr.sureAddr, addr_add]
  of_ := fun vs w => by simp [Instr.field, Tryz.runUnderlying31, part, asAgg, Tryz.isAgg3]; cases vs[0]? <;> simp
instance : Fld Tryz.prog 31 1 1 1 false where
  at_ := fun b o w => by simp [Instr.fieldAt, Tryz.runUnderlying31, Tryz.sizeOf3, fieldPlace, Instr.sureAddr, addr_add]
  of_ := fun vs w => by simp [Instr.field, Tryz.runUnderlying31, part, asAgg, Tryz.isAgg3]; cases vs[1]? <;> simp
instance : Fld Tryz.prog 31 2 2 1 false where
  at_ := fun b o w => by simp [Instr.fieldAt, Tryz.runUnderlying31, Tryz.sizeOf3, fieldPlace, Instr.sureAddr, addr_add]
  of_ := fun vs w => by simp [Instr.field, Tryz.runUnderlying31, part, asAgg, Tryz.isAgg3]; cases vs[2]? <;> simp
instance : Fld Tryz.prog 31 3 3 1 false where
  at_ := fun b o w => by simp [Instr.fieldAt, Tryz.runUnderlying31, Tryz.sizeOf3, fieldPlace, Instr.sureAddr, addr_add]
  of_ := fun vs w => by simp [Instr.field, Tryz.runUnderlying31, part, asAgg, Tryz.isAgg3]; cases vs[3]? <;> simp
instance : Fld Tryz.prog 31 4 4 1 false where
  at_ := fun b o w => by simp [Instr.fieldAt, Tryz.runUnderlying31, Tryz.sizeOf4, fieldPlace, Instr.sureAddr, addr_add]
  of_ := fun vs w => by simp [Instr.field, Tryz.runUnderlying31, part, asAgg, Tryz.isAgg4]; cases vs[4]? <;> simp
instance : Fld Tryz.prog 41 0 0 1 false where
  at_ := fun b o w => by simp [Instr.fieldAt, Tryz.runUnderlying41, Tryz.sizeOf3, fieldPlace, Instr.sureAddr, addr_add]
  of_ := fun vs w => by simp [Instr.field, Tryz.runUnderlying41, part, asAgg, Tryz.isAgg3]; cases vs[0]? <;> simp
instance : Fld Tryz.prog 41 1 1 1 false where
  at_ := fun b o w => by simp [Instr.fieldAt, Tryz.runUnderlying41, Tryz.sizeOf3, fieldPlace, Instr.sureAddr, addr_add]
  of_ := fun vs w => by simp [Instr.field, Tryz.runUnderlying41, part, asAgg, Tryz.isAgg3]; cases vs[1]? <;> simp
instance : Fld Tryz.prog 73 0 0 2 true where
  at_ := fun b o w => by simp [Instr.fieldAt, Tryz.runUnderlying73, Tryz.sizeOf41, fieldPlace, Instr.sureAddr, addr_add]
  of_ := fun vs w => by simp [Instr.field, Tryz.runUnderlying73, part, asAgg, Tryz.isAgg41, Tryz.sizeOf41]
instance : Fld Tryz.prog 73 1 2 1 false where
  at_ := fun b o w => by simp [Instr.fieldAt, Tryz.runUnderlying73, Tryz.sizeOf23, fieldPlace, Instr.sureAddr, addr_add]
  of_ := fun vs w => by simp [Instr.field, Tryz.runUnderlying73, part, asAgg, Tryz.isAgg23]; cases vs[2]? <;> simp
instance : Fld Tryz.prog 73 2 3 1 false where
  at_ := fun b o w => by simp [Instr.fieldAt, Tryz.runUnderlying73, Tryz.sizeOf3, fieldPlace, Instr.sureAddr, addr_add]
  of_ := fun vs w => by simp [Instr.field, Tryz.runUnderlying73, part, asAgg, Tryz.isAgg3]; cases vs[3]? <;> simp
instance : Fld Tryz.prog 73 3 4 1 false where
  at_ := fun b o w => by simp [Instr.fieldAt, Tryz.runUnderlying73, Tryz.sizeOf3, fieldPlace, Instr.sureAddr, addr_add]
  of_ := fun vs w => by simp [Instr.field, Tryz.runUnderlying73, part, asAgg, Tryz.isAgg3]; cases vs[4]? <;> simp
instance : Fld Tryz.prog 73 4 5 1 false where
  at_ := fun b o w => by simp [Instr.fieldAt, Tryz.runUnderlying73, Tryz.sizeOf23, fieldPlace, Instr.sureAddr, addr_add]
  of_ := fun vs w => by simp [Instr.field, Tryz.runUnderlying73, part, asAgg, Tryz.isAgg23]; cases vs[5]? <;> simp
instance : Fld Tryz.prog 73 5 6 1 false where
  at_ := fun b o w => by simp [Instr.fieldAt, Tryz.runUnderlying73, Tryz.sizeOf4, fieldPlace, Instr.sureAddr, addr_add]
  of_ := fun vs w => by simp [Instr.field, Tryz.runUnderlying73, part, asAgg, Tryz.isAgg4]; cases vs[6]? <;> simp
instance : Fld Tryz.prog 84 0 0 1 false where
  at_ := fun b o w => by simp [Instr.fieldAt, Tryz.runUnderlying84, Tryz.sizeOf23, fieldPlace, Instr.sureAddr, addr_add]
  of_ := fun vs w => by simp [Instr.field, Tryz.runUnderlying84, part, asAgg, Tryz.isAgg23]; cases vs[0]? <;> simp
instance : Fld Tryz.prog 84 1 1 1 false where
  at_ := fun b o w => by simp [Instr.fieldAt, Tryz.runUnderlying84, Tryz.sizeOf21, fieldPlace, Instr.sureAddr, addr_add]
  of_ := fun vs w => by simp [Instr.field, Tryz.runUnderlying84, part, asAgg, Tryz.isAgg21]; cases vs[1]? <;> simp
instance : Fld Tryz.prog 84 2 2 1 false where
  at_ := fun b o w => by simp [Instr.fieldAt, Tryz.runUnderlying84, Tryz.sizeOf23, fieldPlace, Instr.sureAddr, addr_add]
  of_ := fun vs w => by simp [Instr.field, Tryz.runUnderlying84, part, asAgg, Tryz.isAgg23]; cases vs[2]? <;> simp
instance : Fld Tryz.prog 84 3 3 1 false where
  at_ := fun b o w => by simp [Instr.fieldAt, Tryz.runUnderlying84, Tryz.sizeOf23, fieldPlace, Instr.sureAddr, addr_add]
  of_ := fun vs w => by simp [Instr.field, Tryz.runUnderlying84, part, asAgg, Tryz.isAgg23]; cases vs[3]? <;> simp
instance : Fld Tryz.prog 101 0 0 1 false where
  at_ := fun b o w => by simp [Instr.fieldAt, Tryz.runUnderlying101, Tryz.sizeOf3, fieldPlace, Instr.sureAddr, addr_add]
  of_ := fun vs w => by simp [Instr.field, Tryz.runUnderlying101, part, asAgg, Tryz.isAgg3]; cases vs[0]? <;> simp
instance : Fld Tryz.prog 101 1 1 1 false where
  at_ := fun b o w => by simp [Instr.fieldAt, Tryz.runUnderlying101, Tryz.sizeOf3, fieldPlace, Instr.sureAddr, addr_add]
  of_ := fun vs w => by simp [Instr.field, Tryz.runUnderlying101, part, asAgg, Tryz.isAgg3]; cases vs[1]? <;> simp
instance : Fld Tryz.prog 103 0 0 1 false where
  at_ := fun b o w => by simp [Instr.fieldAt, Tryz.runUnderlying103, Tryz.sizeOf3, fieldPlace, Instr.sureAddr, addr_add]
  of_ := fun vs w => by simp [Instr.field, Tryz.runUnderlying103, part, asAgg, Tryz.isAgg3]; cases vs[0]? <;> simp
instance : Fld Tryz.prog 103 1 1 1 false where
  at_ := fun b o w => by simp [Instr.fieldAt, Tryz.runUnderlying103, Tryz.sizeOf3, fieldPlace, Instr.sureAddr, addr_add]
  of_ := fun vs w => by simp [Instr.field, Tryz.runUnderlying103, part, asAgg, Tryz.isAgg3]; cases vs[1]? <;> simp
instance : Fld Tryz.prog 103 2 2 1 false where
  at_ := fun b o w => by simp [Instr.fieldAt, Tryz.runUnderlying103, Tryz.sizeOf3, fieldPlace, Instr.sureAddr, addr_add]
  of_ := fun vs w => by simp [Instr.field, Tryz.runUnderlying103, part, asAgg, Tryz.isAgg3]; cases vs[2]? <;> simp
instance : Fld Tryz.prog 103 3 3 1 false where
  at_ := fun b o w => by simp [Instr.fieldAt, Tryz.runUnderlying103, Tryz.sizeOf3, fieldPlace, Instr.sureAddr, addr_add]
  of_ := fun vs w => by simp [Instr.field, Tryz.runUnderlying103, part, asAgg, Tryz.isAgg3]; cases vs[3]? <;> simp
instance : Fld Tryz.prog 103 4 4 1 false where
  at_ := fun b o w => by simp [Instr.fieldAt, Tryz.runUnderlying103, Tryz.sizeOf3, fieldPlace, Instr.sureAddr, addr_add]
  of_ := fun vs w => by simp [Instr.field, Tryz.runUnderlying103, part, asAgg, Tryz.isAgg3]; cases vs[4]? <;> simp
instance : Fld Tryz.prog 115 0 0 1 false where
  at_ := fun b o w => by simp [Instr.fieldAt, Tryz.runUnderlying115, Tryz.sizeOf3, fieldPlace, Instr.sureAddr, addr_add]
  of_ := fun vs w => by simp [Instr.field, Tryz.runUnderlying115, part, asAgg, Tryz.isAgg3]; cases vs[0]? <;> simp
instance : Fld Tryz.prog 115 1 1 1 false where
  at_ := fun b o w => by simp [Instr.fieldAt, Tryz.runUnderlying115, Tryz.sizeOf3, fieldPlace, Instr.sureAddr, addr_add]
  of_ := fun vs w => by simp [Instr.field, Tryz.runUnderlying115, part, asAgg, Tryz.isAgg3]; cases vs[1]? <;> simp
instance : Fld Tryz.prog 115 2 2 1 false where
  at_ := fun b o w => by simp [Instr.fieldAt, Tryz.runUnderlying115, Tryz.sizeOf3, fieldPlace, Instr.sureAddr, addr_add]
  of_ := fun vs w => by simp [Instr.field, Tryz.runUnderlying115, part, asAgg, Tryz.isAgg3]; cases vs[2]? <;> simp
instance : Fld Tryz.prog 115 3 3 1 false where
  at_ := fun b o w => by simp [Instr.fieldAt, Tryz.runUnderlying115, Tryz.sizeOf57, fieldPlace, Instr.sureAddr, addr_add]
  of_ := fun vs w => by simp [Instr.field, Tryz.runUnderlying115, part, asAgg, Tryz.isAgg57]; cases vs[3]? <;> simp
instance : Fld Tryz.prog 119 0 0 1 false where
  at_ := fun b o w => by simp [Instr.fieldAt, Tryz.runUnderlying119, Tryz.sizeOf117, fieldPlace, Instr.sureAddr, addr_add]
  of_ := fun vs w => by simp [Instr.field, Tryz.runUnderlying119, part, asAgg, Tryz.isAgg117]; cases vs[0]? <;> simp
instance : Fld Tryz.prog 122 0 0 1 false where
  at_ := fun b o w => by simp [Instr.fieldAt, Tryz.runUnderlying122, Tryz.sizeOf120, fieldPlace, Instr.sureAddr, addr_add]
  of_ := fun vs w => by simp [Instr.field, Tryz.runUnderlying122, part, asAgg, Tryz.isAgg120]; cases vs[0]? <;> simp
instance : Fld Tryz.prog 125 0 0 1 false where
  at_ := fun b o w => by simp [Instr.fieldAt, Tryz.runUnderlying125, Tryz.sizeOf123, fieldPlace, Instr.sureAddr, addr_add]
  of_ := fun vs w => by simp [Instr.field, Tryz.runUnderlying125, part, asAgg, Tryz.isAgg123]; cases vs[0]? <;> simp
instance : Fld Tryz.prog 128 0 0 1 false where
  at_ := fun b o w => by simp [Instr.fieldAt, Tryz.runUnderlying128, Tryz.sizeOf126, fieldPlace, Instr.sureAddr, addr_add]
  of_ := fun vs w => by simp [Instr.field, Tryz.runUnderlying128, part, asAgg, Tryz.isAgg126]; cases vs[0]? <;> simp
instance : Fld Tryz.prog 131 0 0 1 false where
  at_ := fun b o w => by simp [Instr.fieldAt, Tryz.runUnderlying131, Tryz.sizeOf129, fieldPlace, Instr.sureAddr, addr_add]
  of_ := fun vs w => by simp [Instr.field, Tryz.runUnderlying131, part, asAgg, Tryz.isAgg129]; cases vs[0]? <;> simp
instance : Fld Tryz.prog 134 0 0 1 false where
  at_ := fun b o w => by simp [Instr.fieldAt, Tryz.runUnderlying134, Tryz.sizeOf132, fieldPlace, Instr.sureAddr, addr_add]
  of_ := fun vs w => by simp [Instr.field, Tryz.runUnderlying134, part, asAgg, Tryz.isAgg132]; cases vs[0]? <;> simp
instance : Fld Tryz.prog 136 0 0 1 false where
  at_ := fun b o w => by simp [Instr.fieldAt, Tryz.runUnderlying136, Tryz.sizeOf64, fieldPlace, Instr.sureAddr, addr_add]
  of_ := fun vs w => by simp [Instr.field, Tryz.runUnderlying136, part, asAgg, Tryz.isAgg64]; cases vs[0]? <;> simp
instance : Fld Tryz.prog 140 0 0 5 true where
  at_ := fun b o w => by simp [Instr.fieldAt, Tryz.runUnderlying140, Tryz.sizeOf31, fieldPlace, Instr.sureAddr, addr_add]
  of_ := fun vs w => by simp [Instr.field, Tryz.runUnderlying140, part, asAgg, Tryz.isAgg31, Tryz.sizeOf31]
instance : Fld Tryz.prog 140 1 5 1 false where
  at_ := fun b o w => by simp [Instr.fieldAt, Tryz.runUnderlying140, Tryz.sizeOf116, fieldPlace, Instr.sureAddr, addr_add]
  of_ := fun vs w => by simp [Instr.field, Tryz.runUnderlying140, part, asAgg, Tryz.isAgg116]; cases vs[5]? <;> simp
instance : Fld Tryz.prog 140 2 6 1 true where
  at_ := fun b o w => by simp [Instr.fieldAt, Tryz.runUnderlying140, Tryz.sizeOf119, fieldPlace, Instr.sureAddr, addr_add]
  of_ := fun vs w => by simp [Instr.field, Tryz.runUnderlying140, part, asAgg, Tryz.isAgg119, Tryz.sizeOf119]
instance : Fld Tryz.prog 140 3 7 1 true where
  at_ := fun b o w => by simp [Instr.fieldAt, Tryz.runUnderlying140, Tryz.sizeOf122, fieldPlace, Instr.sureAddr, addr_add]
  of_ := fun vs w => by simp [Instr.field, Tryz.runUnderlying140, part, asAgg, Tryz.isAgg122, Tryz.sizeOf122]
instance : Fld Tryz.prog 140 4 8 1 true where
  at_ := fun b o w => by simp [Instr.fieldAt, Tryz.runUnderlying140, Tryz.sizeOf125, fieldPlace, Instr.sureAddr, addr_add]
  of_ := fun vs w => by simp [Instr.field, Tryz.runUnderlying140, part, asAgg, Tryz.isAgg125, Tryz.sizeOf125]
instance : Fld Tryz.prog 140 5 9 1 true where
  at_ := fun b o w => by simp [Instr.fieldAt, Tryz.runUnderlying140, Tryz.sizeOf128, fieldPlace, Instr.sureAddr, addr_add]
  of_ := fun vs w => by simp [Instr.field, Tryz.runUnderlying140, part, asAgg, Tryz.isAgg128, Tryz.sizeOf128]
instance : Fld Tryz.prog 140 6 10 1 true where
  at_ := fun b o w => by simp [Instr.fieldAt, Tryz.runUnderlying140, Tryz.sizeOf131, fieldPlace, Instr.sureAddr, addr_add]
  of_ := fun vs w => by simp [Instr.field, Tryz.runUnderlying140, part, asAgg, Tryz.isAgg131, Tryz.sizeOf131]
instance : Fld Tryz.prog 140 7 11 1 true where
  at_ := fun b o w => by simp [Instr.fieldAt, Tryz.runUnderlying140, Tryz.sizeOf134, fieldPlace, Instr.sureAddr, addr_add]
  of_ := fun vs w => by simp [Instr.field, Tryz.runUnderlying140, part, asAgg, Tryz.isAgg134, Tryz.sizeOf134]
instance : Fld Tryz.prog 140 8 12 1 true where
  at_ := fun b o w => by simp [Instr.fieldAt, Tryz.runUnderlying140, Tryz.sizeOf136, fieldPlace, Instr.sureAddr, addr_add]
  of_ := fun vs w => by simp [Instr.field, Tryz.runUnderlying140, part, asAgg, Tryz.isAgg136, Tryz.sizeOf136]
instance : Fld Tryz.prog 140 9 13 1 false where
  at_ := fun b o w => by simp [Instr.fieldAt, Tryz.runUnderlying140, Tryz.sizeOf93, fieldPlace, Instr.sureAddr, addr_add]
  of_ := fun vs w => by simp [Instr.field, Tryz.runUnderlying140, part, asAgg, Tryz.isAgg93]; cases vs[13]? <;> simp
instance : Fld Tryz.prog 140 10 14 1 false where
  at_ := fun b o w => by simp [Instr.fieldAt, Tryz.runUnderlying140, Tryz.sizeOf137, fieldPlace, Instr.sureAddr, addr_add]
  of_ := fun vs w => by simp [Instr.field, Tryz.runUnderlying140, part, asAgg, Tryz.isAgg137]; cases vs[14]? <;> simp
instance : Fld Tryz.prog 140 11 15 1 false where
  at_ := fun b o w => by simp [Instr.fieldAt, Tryz.runUnderlying140, Tryz.sizeOf138, fieldPlace, Instr.sureAddr, addr_add]
  of_ := fun vs w => by simp [Instr.field, Tryz.runUnderlying140, part, asAgg, Tryz.isAgg138]; cases vs[15]? <;> simp
instance : Fld Tryz.prog 140 12 16 1 false where
  at_ := fun b o w => by simp [Instr.fieldAt, Tryz.runUnderlying140, Tryz.sizeOf22, fieldPlace, Instr.sureAddr, addr_add]
  of_ := fun vs w => by simp [Instr.field, Tryz.runUnderlying140, part, asAgg, Tryz.isAgg22]; cases vs[16]? <;> simp
instance : Fld Tryz.prog 146 0 0 1 false where
  at_ := fun b o w => by simp [Instr.fieldAt, Tryz.runUnderlying146, Tryz.sizeOf116, fieldPlace, Instr.sureAddr, addr_add]
  of_ := fun vs w => by simp [Instr.field, Tryz.runUnderlying146, part, asAgg, Tryz.isAgg116]; cases vs[0]? <;> simp
instance : Fld Tryz.prog 146 1 1 1 false where
  at_ := fun b o w => by simp [Instr.fieldAt, Tryz.runUnderlying146, Tryz.sizeOf3, fieldPlace, Instr.sureAddr, addr_add]
  of_ := fun vs w => by simp [Instr.field, Tryz.runUnderlying146, part, asAgg, Tryz.isAgg3]; cases vs[1]? <;> simp
instance : Fld Tryz.prog 146 2 2 1 false where
  at_ := fun b o w => by simp [Instr.fieldAt, Tryz.runUnderlying146, Tryz.sizeOf3, fieldPlace, Instr.sureAddr, addr_add]
  of_ := fun vs w => by simp [Instr.field, Tryz.runUnderlying146, part, asAgg, Tryz.isAgg3]; cases vs[2]? <;> simp
instance : Fld Tryz.prog 146 3 3 1 false where
  at_ := fun b o w => by simp [Instr.fieldAt, Tryz.runUnderlying146, Tryz.sizeOf3, fieldPlace, Instr.sureAddr, addr_add]
  of_ := fun vs w => by simp [Instr.field, Tryz.runUnderlying146, part, asAgg, Tryz.isAgg3]; cases vs[3]? <;> simp
instance : Fld Tryz.prog 146 4 4 1 false where
  at_ := fun b o w => by simp [Instr.fieldAt, Tryz.runUnderlying146, Tryz.sizeOf3, fieldPlace, Instr.sureAddr, addr_add]
  of_ := fun vs w => by simp [Instr.field, Tryz.runUnderlying146, part, asAgg, Tryz.isAgg3]; cases vs[4]? <;> simp
instance : Fld Tryz.prog 146 5 5 1 false where
  at_ := fun b o w => by simp [Instr.fieldAt, Tryz.runUnderlying146, Tryz.sizeOf23, fieldPlace, Instr.sureAddr, addr_add]
  of_ := fun vs w => by simp [Instr.field, Tryz.runUnderlying146, part, asAgg, Tryz.isAgg23]; cases vs[5]? <;> simp
instance : Fld Tryz.prog 146 6 6 1 false where
  at_ := fun b o w => by simp [Instr.fieldAt, Tryz.runUnderlying146, Tryz.sizeOf23, fieldPlace, Instr.sureAddr, addr_add]
  of_ := fun vs w => by simp [Instr.field, Tryz.runUnderlying146, part, asAgg, Tryz.isAgg23]; cases vs[6]? <;> simp
instance : Fld Tryz.prog 146 7 7 1 false where
  at_ := fun b o w => by simp [Instr.fieldAt, Tryz.runUnderlying146, Tryz.sizeOf79, fieldPlace, Instr.sureAddr, addr_add]
  of_ := fun vs w => by simp [Instr.field, Tryz.runUnderlying146, part, asAgg, Tryz.isAgg79]; cases vs[7]? <;> simp
instance : Fld Tryz.prog 152 0 0 1 false where
  at_ := fun b o w => by simp [Instr.fieldAt, Tryz.runUnderlying152, Tryz.sizeOf3, fieldPlace, Instr.sureAddr, addr_add]
  of_ := fun vs w => by simp [Instr.field, Tryz.runUnderlying152, part, asAgg, Tryz.isAgg3]; cases vs[0]? <;> simp
instance : Fld Tryz.prog 152 1 1 1 false where
  at_ := fun b o w => by simp [Instr.fieldAt, Tryz.runUnderlying152, Tryz.sizeOf3, fieldPlace, Instr.sureAddr, addr_add]
  of_ := fun vs w => by simp [Instr.field, Tryz.runUnderlying152, part, asAgg, Tryz.isAgg3]; cases vs[1]? <;> simp
instance : Fld Tryz.prog 152 2 2 1 false where
  at_ := fun b o w => by simp [Instr.fieldAt, Tryz.runUnderlying152, Tryz.sizeOf57, fieldPlace, Instr.sureAddr, addr_add]
  of_ := fun vs w => by simp [Instr.field, Tryz.runUnderlying152, part, asAgg, Tryz.isAgg57]; cases vs[2]? <;> simp
instance : Fld Tryz.prog 167 0 0 3 true where
  at_ := fun b o w => by simp [Instr.fieldAt, Tryz.runUnderlying167, Tryz.sizeOf152, fieldPlace, Instr.sureAddr, addr_add]
  of_ := fun vs w => by simp [Instr.field, Tryz.runUnderlying167, part, asAgg, Tryz.isAgg152, Tryz.sizeOf152]
instance : Fld Tryz.prog 167 1 3 1 false where
  at_ := fun b o w => by simp [Instr.fieldAt, Tryz.runUnderlying167, Tryz.sizeOf88, fieldPlace, Instr.sureAddr, addr_add]
  of_ := fun vs w => by simp [Instr.field, Tryz.runUnderlying167, part, asAgg, Tryz.isAgg88]; cases vs[3]? <;> simp
instance : Fld Tryz.prog 167 2 4 1 false where
  at_ := fun b o w => by simp [Instr.fieldAt, Tryz.runUnderlying167, Tryz.sizeOf3, fieldPlace, Instr.sureAddr, addr_add]
  of_ := fun vs w => by simp [Instr.field, Tryz.runUnderlying167, part, asAgg, Tryz.isAgg3]; cases vs[4]? <;> simp
instance : Fld Tryz.prog 169 0 0 1 false where
  at_ := fun b o w => by simp [Instr.fieldAt, Tryz.runUnderlying169, Tryz.sizeOf35, fieldPlace, Instr.sureAddr, addr_add]
  of_ := fun vs w => by simp [Instr.field, Tryz.runUnderlying169, part, asAgg, Tryz.isAgg35]; cases vs[0]? <;> simp
instance : Fld Tryz.prog 169 1 1 1 false where
  at_ := fun b o w => by simp [Instr.fieldAt, Tryz.runUnderlying169, Tryz.sizeOf3, fieldPlace, Instr.sureAddr, addr_add]
  of_ := fun vs w => by simp [Instr.field, Tryz.runUnderlying169, part, asAgg, Tryz.isAgg3]; cases vs[1]? <;> simp
instance : Fld Tryz.prog 179 0 0 1 false where
  at_ := fun b o w => by simp [Instr.fieldAt, Tryz.runUnderlying179, Tryz.sizeOf3, fieldPlace, Instr.sureAddr, addr_add]
  of_ := fun vs w => by simp [Instr.field, Tryz.runUnderlying179, part, asAgg, Tryz.isAgg3]; cases vs[0]? <;> simp
instance : Fld Tryz.prog 179 1 1 1 false where
  at_ := fun b o w => by simp [Instr.fieldAt, Tryz.runUnderlying179, Tryz.sizeOf3, fieldPlace, Instr.sureAddr, addr_add]
  of_ := fun vs w => by simp [Instr.field, Tryz.runUnderlying179, part, asAgg, Tryz.isAgg3]; cases vs[1]? <;> simp
instance : Fld Tryz.prog 179 2 2 1 false where
  at_ := fun b o w => by simp [Instr.fieldAt, Tryz.runUnderlying179, Tryz.sizeOf3, fieldPlace, Instr.sureAddr, addr_add]
  of_ := fun vs w => by simp [Instr.field, Tryz.runUnderlying179, part, asAgg, Tryz.isAgg3]; cases vs[2]? <;> simp
instance : Fld Tryz.prog 179 3 3 5 true where
  at_ := fun b o w => by simp [Instr.fieldAt, Tryz.runUnderlying179, Tryz.sizeOf103, fieldPlace, Instr.sureAddr, addr_add]
  of_ := fun vs w => by simp [Instr.field, Tryz.runUnderlying179, part, asAgg, Tryz.isAgg103, Tryz.sizeOf103]
instance : Fld Tryz.prog 195 0 0 1 false where
  at_ := fun b o w => by simp [Instr.fieldAt, Tryz.runUnderlying195, Tryz.sizeOf3, fieldPlace, Instr.sureAddr, addr_add]
  of_ := fun vs w => by simp [Instr.field, Tryz.runUnderlying195, part, asAgg, Tryz.isAgg3]; cases vs[0]? <;> simp
instance : Fld Tryz.prog 195 1 1 1 false where
  at_ := fun b o w => by simp [Instr.fieldAt, Tryz.runUnderlying195, Tryz.sizeOf3, fieldPlace, Instr.sureAddr, addr_add]
  of_ := fun vs w => by simp [Instr.field, Tryz.runUnderlying195, part, asAgg, Tryz.isAgg3]; cases vs[1]? <;> simp
instance : Fld Tryz.prog 210 0 0 2 true where
  at_ := fun b o w => by simp [Instr.fieldAt, Tryz.runUnderlying210, Tryz.sizeOf41, fieldPlace, Instr.sureAddr, addr_add]
  of_ := fun vs w => by simp [Instr.field, Tryz.runUnderlying210, part, asAgg, Tryz.isAgg41, Tryz.sizeOf41]
instance : Fld Tryz.prog 210 1 2 8 true where
  at_ := fun b o w => by simp [Instr.fieldAt, Tryz.runUnderlying210, Tryz.sizeOf25, fieldPlace, Instr.sureAddr, addr_add]
  of_ := fun vs w => by simp [Instr.field, Tryz.runUnderlying210, part, asAgg, Tryz.isAgg25, Tryz.sizeOf25]
instance : Fld Tryz.prog 210 2 10 1 false where
  at_ := fun b o w => by simp [Instr.fieldAt, Tryz.runUnderlying210, Tryz.sizeOf3, fieldPlace, Instr.sureAddr, addr_add]
  of_ := fun vs w => by simp [Instr.field, Tryz.runUnderlying210, part, asAgg, Tryz.isAgg3]; cases vs[10]? <;> simp
instance : Fld Tryz.prog 210 3 11 1 false where
  at_ := fun b o w => by simp [Instr.fieldAt, Tryz.runUnderlying210, Tryz.sizeOf4, fieldPlace, Instr.sureAddr, addr_add]
  of_ := fun vs w => by simp [Instr.field, Tryz.runUnderlying210, part, asAgg, Tryz.isAgg4]; cases vs[11]? <;> simp
instance : Fld Tryz.prog 210 4 12 1 false where
  at_ := fun b o w => by simp [Instr.fieldAt, Tryz.runUnderlying210, Tryz.sizeOf4, fieldPlace, Instr.sureAddr, addr_add]
  of_ := fun vs w => by simp [Instr.field, Tryz.runUnderlying210, part, asAgg, Tryz.isAgg4]; cases vs[12]? <;> simp
instance : Fld Tryz.prog 241 0 0 1 false where
  at_ := fun b o w => by simp [Instr.fieldAt, Tryz.runUnderlying241, Tryz.sizeOf239, fieldPlace, Instr.sureAddr, addr_add]
  of_ := fun vs w => by simp [Instr.field, Tryz.runUnderlying241, part, asAgg, Tryz.isAgg239]; cases vs[0]? <;> simp
instance : Fld Tryz.prog 244 0 0 1 false where
  at_ := fun b o w => by simp [Instr.fieldAt, Tryz.runUnderlying244, Tryz.sizeOf242, fieldPlace, Instr.sureAddr, addr_add]
  of_ := fun vs w => by simp [Instr.field, Tryz.runUnderlying244, part, asAgg, Tryz.isAgg242]; cases vs[0]? <;> simp
instance : Fld Tryz.prog 247 0 0 1 false where
  at_ := fun b o w => by simp [Instr.fieldAt, Tryz.runUnderlying247, Tryz.sizeOf245, fieldPlace, Instr.sureAddr, addr_add]
  of_ := fun vs w => by simp [Instr.field, Tryz.runUnderlying247, part, asAgg, Tryz.isAgg245]; cases vs[0]? <;> simp
instance : Fld Tryz.prog 250 0 0 1 false where
  at_ := fun b o w => by simp [Instr.fieldAt, Tryz.runUnderlying250, Tryz.sizeOf248, fieldPlace, Instr.sureAddr, addr_add]
  of_ := fun vs w => by simp [Instr.field, Tryz.runUnderlying250, part, asAgg, Tryz.isAgg248]; cases vs[0]? <;> simp
instance : Fld Tryz.prog 253 0 0 1 false where
  at_ := fun b o w => by simp [Instr.fieldAt, Tryz.runUnderlying253, Tryz.sizeOf251, fieldPlace, Instr.sureAddr, addr_add]
  of_ := fun vs w => by simp [Instr.field, Tryz.runUnderlying253, part, asAgg, Tryz.isAgg251]; cases vs[0]? <;> simp
instance : Fld Tryz.prog 256 0 0 1 false where
  at_ := fun b o w => by simp [Instr.fieldAt, Tryz.runUnderlying256, Tryz.sizeOf254, fieldPlace, Instr.sureAddr, addr_add]
  of_ := fun vs w => by simp [Instr.field, Tryz.runUnderlying256, part, asAgg, Tryz.isAgg254]; cases vs[0]? <;> simp
instance : Fld Tryz.prog 258 0 0 1 false where
  at_ := fun b o w => by simp [Instr.fieldAt, Tryz.runUnderlying258, Tryz.sizeOf64, fieldPlace, Instr.sureAddr, addr_add]
  of_ := fun vs w => by simp [Instr.field, Tryz.runUnderlying258, part, asAgg, Tryz.isAgg64]; cases vs[0]? <;> simp
instance : Fld Tryz.prog 260 0 0 5 true where
  at_ := fun b o w => by simp [Instr.fieldAt, Tryz.runUnderlying260, Tryz.sizeOf31, fieldPlace, Instr.sureAddr, addr_add]
  of_ := fun vs w => by simp [Instr.field, Tryz.runUnderlying260, part, asAgg, Tryz.isAgg31, Tryz.sizeOf31]
instance : Fld Tryz.prog 260 1 5 1 false where
  at_ := fun b o w => by simp [Instr.fieldAt, Tryz.runUnderlying260, Tryz.sizeOf59, fieldPlace, Instr.sureAddr, addr_add]
  of_ := fun vs w => by simp [Instr.field, Tryz.runUnderlying260, part, asAgg, Tryz.isAgg59]; cases vs[5]? <;> simp
instance : Fld Tryz.prog 260 2 6 1 true where
  at_ := fun b o w => by simp [Instr.fieldAt, Tryz.runUnderlying260, Tryz.sizeOf241, fieldPlace, Instr.sureAddr, addr_add]
  of_ := fun vs w => by simp [Instr.field, Tryz.runUnderlying260, part, asAgg, Tryz.isAgg241, Tryz.sizeOf241]
instance : Fld Tryz.prog 260 3 7 1 true where
  at_ := fun b o w => by simp [Instr.fieldAt, Tryz.runUnderlying260, Tryz.sizeOf244, fieldPlace, Instr.sureAddr, addr_add]
  of_ := fun vs w => by simp [Instr.field, Tryz.runUnderlying260, part, asAgg, Tryz.isAgg244, Tryz.sizeOf244]
instance : Fld Tryz.prog 260 4 8 1 true where
  at_ := fun b o w => by simp [Instr.fieldAt, Tryz.runUnderlying260, Tryz.sizeOf247, fieldPlace, Instr.sureAddr, addr_add]
  of_ := fun vs w => by simp [Instr.field, Tryz.runUnderlying260, part, asAgg, Tryz.isAgg247, Tryz.sizeOf247]
instance : Fld Tryz.prog 260 5 9 1 true where
  at_ := fun b o w => by simp [Instr.fieldAt, Tryz.runUnderlying260, Tryz.sizeOf250, fieldPlace, Instr.sureAddr, addr_add]
  of_ := fun vs w => by simp [Instr.field, Tryz.runUnderlying260, part, asAgg, Tryz.isAgg250, Tryz.sizeOf250]
instance : Fld Tryz.prog 260 6 10 1 true where
  at_ := fun b o w => by simp [Instr.fieldAt, Tryz.runUnderlying260, Tryz.sizeOf253, fieldPlace, Instr.sureAddr, addr_add]
  of_ := fun vs w => by simp [Instr.field, Tryz.runUnderlying260, part, asAgg, Tryz.isAgg253, Tryz.sizeOf253]
instance : Fld Tryz.prog 260 7 11 1 true where
  at_ := fun b o w => by simp [Instr.fieldAt, Tryz.runUnderlying260, Tryz.sizeOf256, fieldPlace, Instr.sureAddr, addr_add]
  of_ := fun vs w => by simp [Instr.field, Tryz.runUnderlying260, part, asAgg, Tryz.isAgg256, Tryz.sizeOf256]
instance : Fld Tryz.prog 260 8 12 1 true where
  at_ := fun b o w => by simp [Instr.fieldAt, Tryz.runUnderlying260, Tryz.sizeOf258, fieldPlace, Instr.sureAddr, addr_add]
  of_ := fun vs w => by simp [Instr.field, Tryz.runUnderlying260, part, asAgg, Tryz.isAgg258, Tryz.sizeOf258]
instance : Fld Tryz.prog 260 9 13 1 false where
  at_ := fun b o w => by simp [Instr.fieldAt, Tryz.runUnderlying260, Tryz.sizeOf231, fieldPlace, Instr.sureAddr, addr_add]
  of_ := fun vs w => by simp [Instr.field, Tryz.runUnderlying260, part, asAgg, Tryz.isAgg231]; cases vs[13]? <;> simp
instance : Fld Tryz.prog 260 10 14 1 false where
  at_ := fun b o w => by simp [Instr.fieldAt, Tryz.runUnderlying260, Tryz.sizeOf232, fieldPlace, Instr.sureAddr, addr_add]
  of_ := fun vs w => by simp [Instr.field, Tryz.runUnderlying260, part, asAgg, Tryz.isAgg232]; cases vs[14]? <;> simp
instance : Fld Tryz.prog 260 11 15 1 false where
  at_ := fun b o w => by simp [Instr.fieldAt, Tryz.runUnderlying260, Tryz.sizeOf233, fieldPlace, Instr.sureAddr, addr_add]
  of_ := fun vs w => by simp [Instr.field, Tryz.runUnderlying260, part, asAgg, Tryz.isAgg233]; cases vs[15]? <;> simp
instance : Fld Tryz.prog 260 12 16 1 false where
  at_ := fun b o w => by simp [Instr.fieldAt, Tryz.runUnderlying260, Tryz.sizeOf234, fieldPlace, Instr.sureAddr, addr_add]
  of_ := fun vs w => by simp [Instr.field, Tryz.runUnderlying260, part, asAgg, Tryz.isAgg234]; cases vs[16]? <;> simp
instance : Fld Tryz.prog 260 13 17 1 false where
  at_ := fun b o w => by simp [Instr.fieldAt, Tryz.runUnderlying260, Tryz.sizeOf235, fieldPlace, Instr.sureAddr, addr_add]
  of_ := fun vs w => by simp [Instr.field, Tryz.runUnderlying260, part, asAgg, Tryz.isAgg235]; cases vs[17]? <;> simp
instance : Fld Tryz.prog 260 14 18 1 false where
  at_ := fun b o w => by simp [Instr.fieldAt, Tryz.runUnderlying260, Tryz.sizeOf236, fieldPlace, Instr.sureAddr, addr_add]
  of_ := fun vs w => by simp [Instr.field, Tryz.runUnderlying260, part, asAgg, Tryz.isAgg236]; cases vs[18]? <;> simp
instance : Fld Tryz.prog 260 15 19 1 false where
  at_ := fun b o w => by simp [Instr.fieldAt, Tryz.runUnderlying260, Tryz.sizeOf237, fieldPlace, Instr.sureAddr, addr_add]
  of_ := fun vs w => by simp [Instr.field, Tryz.runUnderlying260, part, asAgg, Tryz.isAgg237]; cases vs[19]? <;> simp
instance : Fld Tryz.prog 260 16 20 1 false where
  at_ := fun b o w => by simp [Instr.fieldAt, Tryz.runUnderlying260, Tryz.sizeOf238, fieldPlace, Instr.sureAddr, addr_add]
  of_ := fun vs w => by simp [Instr.field, Tryz.runUnderlying260, part, asAgg, Tryz.isAgg238]; cases vs[20]? <;> simp
instance : Fld Tryz.prog 260 17 21 1 false where
  at_ := fun b o w => by simp [Instr.fieldAt, Tryz.runUnderlying260, Tryz.sizeOf237, fieldPlace, Instr.sureAddr, addr_add]
  of_ := fun vs w => by simp [Instr.field, Tryz.runUnderlying260, part, asAgg, Tryz.isAgg237]; cases vs[21]? <;> simp
instance : Fld Tryz.prog 260 18 22 1 false where
  at_ := fun b o w => by simp [Instr.fieldAt, Tryz.runUnderlying260, Tryz.sizeOf93, fieldPlace, Instr.sureAddr, addr_add]
  of_ := fun vs w => by simp [Instr.field, Tryz.runUnderlying260, part, asAgg, Tryz.isAgg93]; cases vs[22]? <;> simp
instance : Fld Tryz.prog 263 0 0 1 false where
  at_ := fun b o w => by simp [Instr.fieldAt, Tryz.runUnderlying263, Tryz.sizeOf261, fieldPlace, Instr.sureAddr, addr_add]
  of_ := fun vs w => by simp [Instr.field, Tryz.runUnderlying263, part, asAgg, Tryz.isAgg261]; cases vs[0]? <;> simp
instance : Fld Tryz.prog 263 1 1 1 false where
  at_ := fun b o w => by simp [Instr.fieldAt, Tryz.runUnderlying263, Tryz.sizeOf107, fieldPlace, Instr.sureAddr, addr_add]
  of_ := fun vs w => by simp [Instr.field, Tryz.runUnderlying263, part, asAgg, Tryz.isAgg107]; cases vs[1]? <;> simp
instance : Fld Tryz.prog 268 0 0 1 false where
  at_ := fun b o w => by simp [Instr.fieldAt, Tryz.runUnderlying268, Tryz.sizeOf265, fieldPlace, Instr.sureAddr, addr_add]
  of_ := fun vs w => by simp [Instr.field, Tryz.runUnderlying268, part, asAgg, Tryz.isAgg265]; cases vs[0]? <;> simp
instance : Fld Tryz.prog 268 1 1 1 false where
  at_ := fun b o w => by simp [Instr.fieldAt, Tryz.runUnderlying268, Tryz.sizeOf266, fieldPlace, Instr.sureAddr, addr_add]
  of_ := fun vs w => by simp [Instr.field, Tryz.runUnderlying268, part, asAgg, Tryz.isAgg266]; cases vs[1]? <;> simp
instance : Fld Tryz.prog 270 0 0 1 false where
  at_ := fun b o w => by simp [Instr.fieldAt, Tryz.runUnderlying270, Tryz.sizeOf23, fieldPlace, Instr.sureAddr, addr_add]
  of_ := fun vs w => by simp [Instr.field, Tryz.runUnderlying270, part, asAgg, Tryz.isAgg23]; cases vs[0]? <;> simp
instance : Fld Tryz.prog 270 1 1 2 true where
  at_ := fun b o w => by simp [Instr.fieldAt, Tryz.runUnderlying270, Tryz.sizeOf268, fieldPlace, Instr.sureAddr, addr_add]
  of_ := fun vs w => by simp [Instr.field, Tryz.runUnderlying270, part, asAgg, Tryz.isAgg268, Tryz.sizeOf268]
instance : Fld Tryz.prog 274 0 0 1 false where
  at_ := fun b o w => by simp [Instr.fieldAt, Tryz.runUnderlying274, Tryz.sizeOf3, fieldPlace, Instr.sureAddr, addr_add]
  of_ := fun vs w => by simp [Instr.field, Tryz.runUnderlying274, part, asAgg, Tryz.isAgg3]; cases vs[0]? <;> simp
instance : Fld Tryz.prog 274 1 1 1 false where
  at_ := fun b o w => by simp [Instr.fieldAt, Tryz.runUnderlying274, Tryz.sizeOf3, fieldPlace, Instr.sureAddr, addr_add]
  of_ := fun vs w => by simp [Instr.field, Tryz.runUnderlying274, part, asAgg, Tryz.isAgg3]; cases vs[1]? <;> simp
instance : Fld Tryz.prog 274 2 2 1 false where
  at_ := fun b o w => by simp [Instr.fieldAt, Tryz.runUnderlying274, Tryz.sizeOf3, fieldPlace, Instr.sureAddr, addr_add]
  of_ := fun vs w => by simp [Instr.field, Tryz.runUnderlying274, part, asAgg, Tryz.isAgg3]; cases vs[2]? <;> simp
instance : Fld Tryz.prog 274 3 3 1 false where
  at_ := fun b o w => by simp [Instr.fieldAt, Tryz.runUnderlying274, Tryz.sizeOf23, fieldPlace, Instr.sureAddr, addr_add]
  of_ := fun vs w => by simp [Instr.field, Tryz.runUnderlying274, part, asAgg, Tryz.isAgg23]; cases vs[3]? <;> simp
instance : Fld Tryz.prog 277 0 0 1 false where
  at_ := fun b o w => by simp [Instr.fieldAt, Tryz.runUnderlying277, Tryz.sizeOf3, fieldPlace, Instr.sureAddr, addr_add]
  of_ := fun vs w => by simp [Instr.field, Tryz.runUnderlying277, part, asAgg, Tryz.isAgg3]; cases vs[0]? <;> simp
instance : Fld Tryz.prog 277 1 1 1 false where
  at_ := fun b o w => by simp [Instr.fieldAt, Tryz.runUnderlying277, Tryz.sizeOf3, fieldPlace, Instr.sureAddr, addr_add]
  of_ := fun vs w => by simp [Instr.field, Tryz.runUnderlying277, part, asAgg, Tryz.isAgg3]; cases vs[1]? <;> simp
instance : Fld Tryz.prog 277 2 2 1 false where
  at_ := fun b o w => by simp [Instr.fieldAt, Tryz.runUnderlying277, Tryz.sizeOf3, fieldPlace, Instr.sureAddr, addr_add]
  of_ := fun vs w => by simp [Instr.field, Tryz.runUnderlying277, part, asAgg, Tryz.isAgg3]; cases vs[2]? <;> simp
instance : Fld Tryz.prog 277 3 3 5 true where
  at_ := fun b o w => by simp [Instr.fieldAt, Tryz.runUnderlying277, Tryz.sizeOf103, fieldPlace, Instr.sureAddr, addr_add]
  of_ := fun vs w => by simp [Instr.field, Tryz.runUnderlying277, part, asAgg, Tryz.isAgg103, Tryz.sizeOf103]
instance : Fld Tryz.prog 282 0 0 1 false where
  at_ := fun b o w => by simp [Instr.fieldAt, Tryz.runUnderlying282, Tryz.sizeOf3, fieldPlace, Instr.sureAddr, addr_add]
  of_ := fun vs w => by simp [Instr.field, Tryz.runUnderlying282, part, asAgg, Tryz.isAgg3]; cases vs[0]? <;> simp
instance : Fld Tryz.prog 282 1 1 1 false where
  at_ := fun b o w => by simp [Instr.fieldAt, Tryz.runUnderlying282, Tryz.sizeOf278, fieldPlace, Instr.sureAddr, addr_add]
  of_ := fun vs w => by simp [Instr.field, Tryz.runUnderlying282, part, asAgg, Tryz.isAgg278]; cases vs[1]? <;> simp
instance : Fld Tryz.prog 282 2 2 1 false where
  at_ := fun b o w => by simp [Instr.fieldAt, Tryz.runUnderlying282, Tryz.sizeOf279, fieldPlace, Instr.sureAddr, addr_add]
  of_ := fun vs w => by simp [Instr.field, Tryz.runUnderlying282, part, asAgg, Tryz.isAgg279]; cases vs[2]? <;> simp
instance : Fld Tryz.prog 282 3 3 1 false where
  at_ := fun b o w => by simp [Instr.fieldAt, Tryz.runUnderlying282, Tryz.sizeOf280, fieldPlace, Instr.sureAddr, addr_add]
  of_ := fun vs w => by simp [Instr.field, Tryz.runUnderlying282, part, asAgg, Tryz.isAgg280]; cases vs[3]? <;> simp
instance : Fld Tryz.prog 282 4 4 1 false where
  at_ := fun b o w => by simp [Instr.fieldAt, Tryz.runUnderlying282, Tryz.sizeOf143, fieldPlace, Instr.sureAddr, addr_add]
  of_ := fun vs w => by simp [Instr.field, Tryz.runUnderlying282, part, asAgg, Tryz.isAgg143]; cases vs[4]? <;> simp
instance : Fld Tryz.prog 282 5 5 8 true where
  at_ := fun b o w => by simp [Instr.fieldAt, Tryz.runUnderlying282, Tryz.sizeOf277, fieldPlace, Instr.sureAddr, addr_add]
  of_ := fun vs w => by simp [Instr.field, Tryz.runUnderlying282, part, asAgg, Tryz.isAgg277, Tryz.sizeOf277]
instance : Fld Tryz.prog 282 6 13 1 false where
  at_ := fun b o w => by simp [Instr.fieldAt, Tryz.runUnderlying282, Tryz.sizeOf3, fieldPlace, Instr.sureAddr, addr_add]
  of_ := fun vs w => by simp [Instr.field, Tryz.runUnderlying282, part, asAgg, Tryz.isAgg3]; cases vs[13]? <;> simp
instance : Fld Tryz.prog 284 0 0 2 true where
  at_ := fun b o w => by simp [Instr.fieldAt, Tryz.runUnderlying284, Tryz.sizeOf41, fieldPlace, Instr.sureAddr, addr_add]
  of_ := fun vs w => by simp [Instr.field, Tryz.runUnderlying284, part, asAgg, Tryz.isAgg41, Tryz.sizeOf41]
instance : Fld Tryz.prog 284 1 2 1 false where
  at_ := fun b o w => by simp [Instr.fieldAt, Tryz.runUnderlying284, Tryz.sizeOf4, fieldPlace, Instr.sureAddr, addr_add]
  of_ := fun vs w => by simp [Instr.field, Tryz.runUnderlying284, part, asAgg, Tryz.isAgg4]; cases vs[2]? <;> simp
instance : Fld Tryz.prog 287 0 0 1 false where
  at_ := fun b o w => by simp [Instr.fieldAt, Tryz.runUnderlying287, Tryz.sizeOf3, fieldPlace, Instr.sureAddr, addr_add]
  of_ := fun vs w => by simp [Instr.field, Tryz.runUnderlying287, part, asAgg, Tryz.isAgg3]; cases vs[0]? <;> simp
instance : Fld Tryz.prog 287 1 1 1 false where
  at_ := fun b o w => by simp [Instr.fieldAt, Tryz.runUnderlying287, Tryz.sizeOf3, fieldPlace, Instr.sureAddr, addr_add]
  of_ := fun vs w => by simp [Instr.field, Tryz.runUnderlying287, part, asAgg, Tryz.isAgg3]; cases vs[1]? <;> simp
instance : Fld Tryz.prog 289 0 0 1 false where
  at_ := fun b o w => by simp [Instr.fieldAt, Tryz.runUnderlying289, Tryz.sizeOf3, fieldPlace, Instr.sureAddr, addr_add]
  of_ := fun vs w => by simp [Instr.field, Tryz.runUnderlying289, part, asAgg, Tryz.isAgg3]; cases vs[0]? <;> simp
instance : Fld Tryz.prog 289 1 1 1 false where
  at_ := fun b o w => by simp [Instr.fieldAt, Tryz.runUnderlying289, Tryz.sizeOf3, fieldPlace, Instr.sureAddr, addr_add]
  of_ := fun vs w => by simp [Instr.field, Tryz.runUnderlying289, part, asAgg, Tryz.isAgg3]; cases vs[1]? <;> simp
instance : Fld Tryz.prog 293 0 0 1 false where
  at_ := fun b o w => by simp [Instr.fieldAt, Tryz.runUnderlying293, Tryz.sizeOf290, fieldPlace, Instr.sureAddr, addr_add]
  of_ := fun vs w => by simp [Instr.field, Tryz.runUnderlying293, part, asAgg, Tryz.isAgg290]; cases vs[0]? <;> simp
instance : Fld Tryz.prog 293 1 1 1 false where
  at_ := fun b o w => by simp [Instr.fieldAt, Tryz.runUnderlying293, Tryz.sizeOf291, fieldPlace, Instr.sureAddr, addr_add]
  of_ := fun vs w => by simp [Instr.field, Tryz.runUnderlying293, part, asAgg, Tryz.isAgg291]; cases vs[1]? <;> simp
instance : Fld Tryz.prog 295 0 0 1 false where
  at_ := fun b o w => by simp [Instr.fieldAt, Tryz.runUnderlying295, Tryz.sizeOf265, fieldPlace, Instr.sureAddr, addr_add]
  of_ := fun vs w => by simp [Instr.field, Tryz.runUnderlying295, part, asAgg, Tryz.isAgg265]; cases vs[0]? <;> simp
instance : Fld Tryz.prog 297 0 0 1 false where
  at_ := fun b o w => by simp [Instr.fieldAt, Tryz.runUnderlying297, Tryz.sizeOf23, fieldPlace, Instr.sureAddr, addr_add]
  of_ := fun vs w => by simp [Instr.field, Tryz.runUnderlying297, part, asAgg, Tryz.isAgg23]; cases vs[0]? <;> simp
instance : Fld Tryz.prog 297 1 1 1 true where
  at_ := fun b o w => by simp [Instr.fieldAt, Tryz.runUnderlying297, Tryz.sizeOf295, fieldPlace, Instr.sureAddr, addr_add]
  of_ := fun vs w => by simp [Instr.field, Tryz.runUnderlying297, part, asAgg, Tryz.isAgg295, Tryz.sizeOf295]
instance : Fld Tryz.prog 299 0 0 2 true where
  at_ := fun b o w => by simp [Instr.fieldAt, Tryz.runUnderlying299, Tryz.sizeOf41, fieldPlace, Instr.sureAddr, addr_add]
  of_ := fun vs w => by simp [Instr.field, Tryz.runUnderlying299, part, asAgg, Tryz.isAgg41, Tryz.sizeOf41]
instance : Fld Tryz.prog 299 1 2 8 true where
  at_ := fun b o w => by simp [Instr.fieldAt, Tryz.runUnderlying299, Tryz.sizeOf25, fieldPlace, Instr.sureAddr, addr_add]
  of_ := fun vs w => by simp [Instr.field, Tryz.runUnderlying299, part, asAgg, Tryz.isAgg25, Tryz.sizeOf25]
instance : Fld Tryz.prog 299 2 10 1 false where
  at_ := fun b o w => by simp [Instr.fieldAt, Tryz.runUnderlying299, Tryz.sizeOf3, fieldPlace, Instr.sureAddr, addr_add]
  of_ := fun vs w => by simp [Instr.field, Tryz.runUnderlying299, part, asAgg, Tryz.isAgg3]; cases vs[10]? <;> simp
instance : Fld Tryz.prog 299 3 11 1 false where
  at_ := fun b o w => by simp [Instr.fieldAt, Tryz.runUnderlying299, Tryz.sizeOf4, fieldPlace, Instr.sureAddr, addr_add]
  of_ := fun vs w => by simp [Instr.field, Tryz.runUnderlying299, part, asAgg, Tryz.isAgg4]; cases vs[11]? <;> simp
instance : Fld Tryz.prog 299 4 12 1 false where
  at_ := fun b o w => by simp [Instr.fieldAt, Tryz.runUnderlying299, Tryz.sizeOf4, fieldPlace, Instr.sureAddr, addr_add]
  of_ := fun vs w => by simp [Instr.field, Tryz.runUnderlying299, part, asAgg, Tryz.isAgg4]; cases vs[12]? <;> simp
instance : Fld Tryz.prog 308 0 0 1 false where
  at_ := fun b o w => by simp [Instr.fieldAt, Tryz.runUnderlying308, Tryz.sizeOf3, fieldPlace, Instr.sureAddr, addr_add]
  of_ := fun vs w => by simp [Instr.field, Tryz.runUnderlying308, part, asAgg, Tryz.isAgg3]; cases vs[0]? <;> simp
instance : Fld Tryz.prog 308 1 1 1 false where
  at_ := fun b o w => by simp [Instr.fieldAt, Tryz.runUnderlying308, Tryz.sizeOf23, fieldPlace, Instr.sureAddr, addr_add]
  of_ := fun vs w => by simp [Instr.field, Tryz.runUnderlying308, part, asAgg, Tryz.isAgg23]; cases vs[1]? <;> simp
instance : Fld Tryz.prog 308 2 2 1 false where
  at_ := fun b o w => by simp [Instr.fieldAt, Tryz.runUnderlying308, Tryz.sizeOf4, fieldPlace, Instr.sureAddr, addr_add]
  of_ := fun vs w => by simp [Instr.field, Tryz.runUnderlying308, part, asAgg, Tryz.isAgg4]; cases vs[2]? <;> simp
instance : Fld Tryz.prog 311 0 0 1 false where
  at_ := fun b o w => by simp [Instr.fieldAt, Tryz.runUnderlying311, Tryz.sizeOf33, fieldPlace, Instr.sureAddr, addr_add]
  of_ := fun vs w => by simp [Instr.field, Tryz.runUnderlying311, part, asAgg, Tryz.isAgg33]; cases vs[0]? <;> simp
instance : Fld Tryz.prog 311 1 1 8 true where
  at_ := fun b o w => by simp [Instr.fieldAt, Tryz.runUnderlying311, Tryz.sizeOf179, fieldPlace, Instr.sureAddr, addr_add]
  of_ := fun vs w => by simp [Instr.field, Tryz.runUnderlying311, part, asAgg, Tryz.isAgg179, Tryz.sizeOf179]
instance : Fld Tryz.prog 311 2 9 13 true where
  at_ := fun b o w => by simp [Instr.fieldAt, Tryz.runUnderlying311, Tryz.sizeOf210, fieldPlace, Instr.sureAddr, addr_add]
  of_ := fun vs w => by simp [Instr.field, Tryz.runUnderlying311, part, asAgg, Tryz.isAgg210, Tryz.sizeOf210]
instance : Fld Tryz.prog 311 3 22 2 true where
  at_ := fun b o w => by simp [Instr.fieldAt, Tryz.runUnderlying311, Tryz.sizeOf41, fieldPlace, Instr.sureAddr, addr_add]
  of_ := fun vs w => by simp [Instr.field, Tryz.runUnderlying311, part, asAgg, Tryz.isAgg41, Tryz.sizeOf41]
instance : Fld Tryz.prog 317 0 0 1 false where
  at_ := fun b o w => by simp [Instr.fieldAt, Tryz.runUnderlying317, Tryz.sizeOf35, fieldPlace, Instr.sureAddr, addr_add]
  of_ := fun vs w => by simp [Instr.field, Tryz.runUnderlying317, part, asAgg, Tryz.isAgg35]; cases vs[0]? <;> simp
instance : Fld Tryz.prog 317 1 1 13 true where
  at_ := fun b o w => by simp [Instr.fieldAt, Tryz.runUnderlying317, Tryz.sizeOf299, fieldPlace, Instr.sureAddr, addr_add]
  of_ := fun vs w => by simp [Instr.field, Tryz.runUnderlying317, part, asAgg, Tryz.isAgg299, Tryz.sizeOf299]
instance : Fld Tryz.prog 317 2 14 8 true where
  at_ := fun b o w => by simp [Instr.fieldAt, Tryz.runUnderlying317, Tryz.sizeOf277, fieldPlace, Instr.sureAddr, addr_add]
  of_ := fun vs w => by simp [Instr.field, Tryz.runUnderlying317, part, asAgg, Tryz.isAgg277, Tryz.sizeOf277]
instance : Fld Tryz.prog 331 0 0 1 false where
  at_ := fun b o w => by simp [Instr.fieldAt, Tryz.runUnderlying331, Tryz.sizeOf3, fieldPlace, Instr.sureAddr, addr_add]
  of_ := fun vs w => by simp [Instr.field, Tryz.runUnderlying331, part, asAgg, Tryz.isAgg3]; cases vs[0]? <;> simp
instance : Fld Tryz.prog 331 1 1 1 false where
  at_ := fun b o w => by simp [Instr.fieldAt, Tryz.runUnderlying331, Tryz.sizeOf3, fieldPlace, Instr.sureAddr, addr_add]
  of_ := fun vs w => by simp [Instr.field, Tryz.runUnderlying331, part, asAgg, Tryz.isAgg3]; cases vs[1]? <;> simp
instance : Fld Tryz.prog 341 0 0 1 false where
  at_ := fun b o w => by simp [Instr.fieldAt, Tryz.runUnderlying341, Tryz.sizeOf59, fieldPlace, Instr.sureAddr, addr_add]
  of_ := fun vs w => by simp [Instr.field, Tryz.runUnderlying341, part, asAgg, Tryz.isAgg59]; cases vs[0]? <;> simp
instance : Fld Tryz.prog 341 1 1 1 false where
  at_ := fun b o w => by simp [Instr.fieldAt, Tryz.runUnderlying341, Tryz.sizeOf3, fieldPlace, Instr.sureAddr, addr_add]
  of_ := fun vs w => by simp [Instr.field, Tryz.runUnderlying341, part, asAgg, Tryz.isAgg3]; cases vs[1]? <;> simp
instance : Fld Tryz.prog 341 2 2 1 false where
  at_ := fun b o w => by simp [Instr.fieldAt, Tryz.runUnderlying341, Tryz.sizeOf3, fieldPlace, Instr.sureAddr, addr_add]
  of_ := fun vs w => by simp [Instr.field, Tryz.runUnderlying341, part, asAgg, Tryz.isAgg3]; cases vs[2]? <;> simp
instance : Fld Tryz.prog 341 3 3 1 false where
  at_ := fun b o w => by simp [Instr.fieldAt, Tryz.runUnderlying341, Tryz.sizeOf3, fieldPlace, Instr.sureAddr, addr_add]
  of_ := fun vs w => by simp [Instr.field, Tryz.runUnderlying341, part, asAgg, Tryz.isAgg3]; cases vs[3]? <;> simp
instance : Fld Tryz.prog 341 4 4 1 false where
  at_ := fun b o w => by simp [Instr.fieldAt, Tryz.runUnderlying341, Tryz.sizeOf3, fieldPlace, Instr.sureAddr, addr_add]
  of_ := fun vs w => by simp [Instr.field, Tryz.runUnderlying341, part, asAgg, Tryz.isAgg3]; cases vs[4]? <;> simp
instance : Fld Tryz.prog 341 5 5 1 false where
  at_ := fun b o w => by simp [Instr.fieldAt, Tryz.runUnderlying341, Tryz.sizeOf23, fieldPlace, Instr.sureAddr, addr_add]
  of_ := fun vs w => by simp [Instr.field, Tryz.runUnderlying341, part, asAgg, Tryz.isAgg23]; cases vs[5]? <;> simp
instance : Fld Tryz.prog 341 6 6 1 false where
  at_ := fun b o w => by simp [Instr.fieldAt, Tryz.runUnderlying341, Tryz.sizeOf23, fieldPlace, Instr.sureAddr, addr_add]
  of_ := fun vs w => by simp [Instr.field, Tryz.runUnderlying341, part, asAgg, Tryz.isAgg23]; cases vs[6]? <;> simp
instance : Fld Tryz.prog 341 7 7 1 false where
  at_ := fun b o w => by simp [Instr.fieldAt, Tryz.runUnderlying341, Tryz.sizeOf79, fieldPlace, Instr.sureAddr, addr_add]
  of_ := fun vs w => by simp [Instr.field, Tryz.runUnderlying341, part, asAgg, Tryz.isAgg79]; cases vs[7]? <;> simp
instance : Fld Tryz.prog 351 0 0 5 true where
  at_ := fun b o w => by simp [Instr.fieldAt, Tryz.runUnderlying351, Tryz.sizeOf103, fieldPlace, Instr.sureAddr, addr_add]
  of_ := fun vs w => by simp [Instr.field, Tryz.runUnderlying351, part, asAgg, Tryz.isAgg103, Tryz.sizeOf103]
instance : Fld Tryz.prog 351 1 5 2 true where
  at_ := fun b o w => by simp [Instr.fieldAt, Tryz.runUnderlying351, Tryz.sizeOf101, fieldPlace, Instr.sureAddr, addr_add]
  of_ := fun vs w => by simp [Instr.field, Tryz.runUnderlying351, part, asAgg, Tryz.isAgg101, Tryz.sizeOf101]
instance : Fld Tryz.prog 354 0 0 2 true where
  at_ := fun b o w => by simp [Instr.fieldAt, Tryz.runUnderlying354, Tryz.sizeOf41, fieldPlace, Instr.sureAddr, addr_add]
  of_ := fun vs w => by simp [Instr.field, Tryz.runUnderlying354, part, asAgg, Tryz.isAgg41, Tryz.sizeOf41]
instance : Fld Tryz.prog 354 1 2 1 false where
  at_ := fun b o w => by simp [Instr.fieldAt, Tryz.runUnderlying354, Tryz.sizeOf4, fieldPlace, Instr.sureAddr, addr_add]
  of_ := fun vs w => by simp [Instr.field, Tryz.runUnderlying354, part, asAgg, Tryz.isAgg4]; cases vs[2]? <;> simp
instance : Fld Tryz.prog 358 0 0 2 true where
  at_ := fun b o w => by simp [Instr.fieldAt, Tryz.runUnderlying358, Tryz.sizeOf41, fieldPlace, Instr.sureAddr, addr_add]
  of_ := fun vs w => by simp [Instr.field, Tryz.runUnderlying358, part, asAgg, Tryz.isAgg41, Tryz.sizeOf41]
instance : Fld Tryz.prog 358 1 2 1 false where
  at_ := fun b o w => by simp [Instr.fieldAt, Tryz.runUnderlying358, Tryz.sizeOf3, fieldPlace, Instr.sureAddr, addr_add]
  of_ := fun vs w => by simp [Instr.field, Tryz.runUnderlying358, part, asAgg, Tryz.isAgg3]; cases vs[2]? <;> simp
instance : Fld Tryz.prog 371 0 0 1 false where
  at_ := fun b o w => by simp [Instr.fieldAt, Tryz.runUnderlying371, Tryz.sizeOf359, fieldPlace, Instr.sureAddr, addr_add]
  of_ := fun vs w => by simp [Instr.field, Tryz.runUnderlying371, part, asAgg, Tryz.isAgg359]; cases vs[0]? <;> simp
instance : Fld Tryz.prog 373 0 0 1 false where
  at_ := fun b o w => by simp [Instr.fieldAt, Tryz.runUnderlying373, Tryz.sizeOf33, fieldPlace, Instr.sureAddr, addr_add]
  of_ := fun vs w => by simp [Instr.field, Tryz.runUnderlying373, part, asAgg, Tryz.isAgg33]; cases vs[0]? <;> simp
instance : Fld Tryz.prog 373 1 1 1 false where
  at_ := fun b o w => by simp [Instr.fieldAt, Tryz.runUnderlying373, Tryz.sizeOf3, fieldPlace, Instr.sureAddr, addr_add]
  of_ := fun vs w => by simp [Instr.field, Tryz.runUnderlying373, part, asAgg, Tryz.isAgg3]; cases vs[1]? <;> simp
instance : Fld Tryz.prog 415 0 0 1 false where
  at_ := fun b o w => by simp [Instr.fieldAt, Tryz.runUnderlying415, Tryz.sizeOf359, fieldPlace, Instr.sureAddr, addr_add]
  of_ := fun vs w => by simp [Instr.field, Tryz.runUnderlying415, part, asAgg, Tryz.isAgg359]; cases vs[0]? <;> simp
instance : Fld Tryz.prog 418 0 0 1 false where
  at_ := fun b o w => by simp [Instr.fieldAt, Tryz.runUnderlying418, Tryz.sizeOf3, fieldPlace, Instr.sureAddr, addr_add]
  of_ := fun vs w => by simp [Instr.field, Tryz.runUnderlying418, part, asAgg, Tryz.isAgg3]; cases vs[0]? <;> simp
instance : Fld Tryz.prog 418 1 1 1 false where
  at_ := fun b o w => by simp [Instr.fieldAt, Tryz.runUnderlying418, Tryz.sizeOf23, fieldPlace, Instr.sureAddr, addr_add]
  of_ := fun vs w => by simp [Instr.field, Tryz.runUnderlying418, part, asAgg, Tryz.isAgg23]; cases vs[1]? <;> simp
instance : Fld Tryz.prog 424 0 0 2 true where
  at_ := fun b o w => by simp [Instr.fieldAt, Tryz.runUnderlying424, Tryz.sizeOf101, fieldPlace, Instr.sureAddr, addr_add]
  of_ := fun vs w => by simp [Instr.field, Tryz.runUnderlying424, part, asAgg, Tryz.isAgg101, Tryz.sizeOf101]
instance : Fld Tryz.prog 424 1 2 2 true where
  at_ := fun b o w => by simp [Instr.fieldAt, Tryz.runUnderlying424, Tryz.sizeOf101, fieldPlace, Instr.sureAddr, addr_add]
  of_ := fun vs w => by simp [Instr.field, Tryz.runUnderlying424, part, asAgg, Tryz.isAgg101, Tryz.sizeOf101]
instance : Fld Tryz.prog 424 2 4 5 true where
  at_ := fun b o w => by simp [Instr.fieldAt, Tryz.runUnderlying424, Tryz.sizeOf103, fieldPlace, Instr.sureAddr, addr_add]
  of_ := fun vs w => by simp [Instr.field, Tryz.runUnderlying424, part, asAgg, Tryz.isAgg103, Tryz.sizeOf103]
instance : Fld Tryz.prog 428 0 0 2 true where
  at_ := fun b o w => by simp [Instr.fieldAt, Tryz.runUnderlying428, Tryz.sizeOf287, fieldPlace, Instr.sureAddr, addr_add]
  of_ := fun vs w => by simp [Instr.field, Tryz.runUnderlying428, part, asAgg, Tryz.isAgg287, Tryz.sizeOf287]
instance : Fld Tryz.prog 428 1 2 2 true where
  at_ := fun b o w => by simp [Instr.fieldAt, Tryz.runUnderlying428, Tryz.sizeOf289, fieldPlace, Instr.sureAddr, addr_add]
  of_ := fun vs w => by simp [Instr.field, Tryz.runUnderlying428, part, asAgg, Tryz.isAgg289, Tryz.sizeOf289]
instance : Fld Tryz.prog 431 0 0 1 false where
  at_ := fun b o w => by simp [Instr.fieldAt, Tryz.runUnderlying431, Tryz.sizeOf3, fieldPlace, Instr.sureAddr, addr_add]
  of_ := fun vs w => by simp [Instr.field, Tryz.runUnderlying431, part, asAgg, Tryz.isAgg3]; cases vs[0]? <;> simp
instance : Fld Tryz.prog 431 1 1 1 false where
  at_ := fun b o w => by simp [Instr.fieldAt, Tryz.runUnderlying431, Tryz.sizeOf3, fieldPlace, Instr.sureAddr, addr_add]
  of_ := fun vs w => by simp [Instr.field, Tryz.runUnderlying431, part, asAgg, Tryz.isAgg3]; cases vs[1]? <;> simp
instance : Fld Tryz.prog 456 0 0 2 true where
  at_ := fun b o w => by simp [Instr.fieldAt, Tryz.runUnderlying456, Tryz.sizeOf41, fieldPlace, Instr.sureAddr, addr_add]
  of_ := fun vs w => by simp [Instr.field, Tryz.runUnderlying456, part, asAgg, Tryz.isAgg41, Tryz.sizeOf41]
instance : Fld Tryz.prog 456 1 2 1 false where
  at_ := fun b o w => by simp [Instr.fieldAt, Tryz.runUnderlying456, Tryz.sizeOf3, fieldPlace, Instr.sureAddr, addr_add]
  of_ := fun vs w => by simp [Instr.field, Tryz.runUnderlying456, part, asAgg, Tryz.isAgg3]; cases vs[2]? <;> simp
instance : Fld Tryz.prog 460 0 0 2 true where
  at_ := fun b o w => by simp [Instr.fieldAt, Tryz.runUnderlying460, Tryz.sizeOf41, fieldPlace, Instr.sureAddr, addr_add]
  of_ := fun vs w => by simp [Instr.field, Tryz.runUnderlying460, part, asAgg, Tryz.isAgg41, Tryz.sizeOf41]
instance : Fld Tryz.prog 460 1 2 1 false where
  at_ := fun b o w => by simp [Instr.fieldAt, Tryz.runUnderlying460, Tryz.sizeOf23, fieldPlace, Instr.sureAddr, addr_add]
  of_ := fun vs w => by simp [Instr.field, Tryz.runUnderlying460, part, asAgg, Tryz.isAgg23]; cases vs[2]? <;> simp
instance : Fld Tryz.prog 460 2 3 1 false where
  at_ := fun b o w => by simp [Instr.fieldAt, Tryz.runUnderlying460, Tryz.sizeOf3, fieldPlace, Instr.sureAddr, addr_add]
  of_ := fun vs w => by simp [Instr.field, Tryz.runUnderlying460, part, asAgg, Tryz.isAgg3]; cases vs[3]? <;> simp
instance : Fld Tryz.prog 460 3 4 1 false where
  at_ := fun b o w => by simp [Instr.fieldAt, Tryz.runUnderlying460, Tryz.sizeOf4, fieldPlace, Instr.sureAddr, addr_add]
  of_ := fun vs w => by simp [Instr.field, Tryz.runUnderlying460, part, asAgg, Tryz.isAgg4]; cases vs[4]? <;> simp
instance : Fld Tryz.prog 474 0 0 1 false where
  at_ := fun b o w => by simp [Instr.fieldAt, Tryz.runUnderlying474, Tryz.sizeOf3, fieldPlace, Instr.sureAddr, addr_add]
  of_ := fun vs w => by simp [Instr.field, Tryz.runUnderlying474, part, asAgg, Tryz.isAgg3]; cases vs[0]? <;> simp
instance : Fld Tryz.prog 474 1 1 1 false where
  at_ := fun b o w => by simp [Instr.fieldAt, Tryz.runUnderlying474, Tryz.sizeOf3, fieldPlace, Instr.sureAddr, addr_add]
  of_ := fun vs w => by simp [Instr.field, Tryz.runUnderlying474, part, asAgg, Tryz.isAgg3]; cases vs[1]? <;> simp
instance : Fld Tryz.prog 477 0 0 1 false where
  at_ := fun b o w => by simp [Instr.fieldAt, Tryz.runUnderlying477, Tryz.sizeOf93, fieldPlace, Instr.sureAddr, addr_add]
  of_ := fun vs w => by simp [Instr.field, Tryz.runUnderlying477, part, asAgg, Tryz.isAgg93]; cases vs[0]? <;> simp
instance : Fld Tryz.prog 477 1 1 2 true where
  at_ := fun b o w => by simp [Instr.fieldAt, Tryz.runUnderlying477, Tryz.sizeOf41, fieldPlace, Instr.sureAddr, addr_add]
  of_ := fun vs w => by simp [Instr.field, Tryz.runUnderlying477, part, asAgg, Tryz.isAgg41, Tryz.sizeOf41]
instance : Fld Tryz.prog 479 0 0 1 false where
  at_ := fun b o w => by simp [Instr.fieldAt, Tryz.runUnderlying479, Tryz.sizeOf93, fieldPlace, Instr.sureAddr, addr_add]
  of_ := fun vs w => by simp [Instr.field, Tryz.runUnderlying479, part, asAgg, Tryz.isAgg93]; cases vs[0]? <;> simp
instance : Fld Tryz.prog 479 1 1 2 true where
  at_ := fun b o w => by simp [Instr.fieldAt, Tryz.runUnderlying479, Tryz.sizeOf41, fieldPlace, Instr.sureAddr, addr_add]
  of_ := fun vs w => by simp [Instr.field, Tryz.runUnderlying479, part, asAgg, Tryz.isAgg41, Tryz.sizeOf41]
instance : Fld Tryz.prog 481 0 0 2 true where
  at_ := fun b o w => by simp [Instr.fieldAt, Tryz.runUnderlying481, Tryz.sizeOf331, fieldPlace, Instr.sureAddr, addr_add]
  of_ := fun vs w => by simp [Instr.field, Tryz.runUnderlying481, part, asAgg, Tryz.isAgg331, Tryz.sizeOf331]
instance : Fld Tryz.prog 481 1 2 1 false where
  at_ := fun b o w => by simp [Instr.fieldAt, Tryz.runUnderlying481, Tryz.sizeOf3, fieldPlace, Instr.sureAddr, addr_add]
  of_ := fun vs w => by simp [Instr.field, Tryz.runUnderlying481, part, asAgg, Tryz.isAgg3]; cases vs[2]? <;> simp
instance : Fld Tryz.prog 487 0 0 2 true where
  at_ := fun b o w => by simp [Instr.fieldAt, Tryz.runUnderlying487, Tryz.sizeOf41, fieldPlace, Instr.sureAddr, addr_add]
  of_ := fun vs w => by simp [Instr.field, Tryz.runUnderlying487, part, asAgg, Tryz.isAgg41, Tryz.sizeOf41]
instance : Fld Tryz.prog 487 1 2 1 false where
  at_ := fun b o w => by simp [Instr.fieldAt, Tryz.runUnderlying487, Tryz.sizeOf23, fieldPlace, Instr.sureAddr, addr_add]
  of_ := fun vs w => by simp [Instr.field, Tryz.runUnderlying487, part, asAgg, Tryz.isAgg23]; cases vs[2]? <;> simp
instance : Fld Tryz.prog 487 2 3 1 false where
  at_ := fun b o w => by simp [Instr.fieldAt, Tryz.runUnderlying487, Tryz.sizeOf3, fieldPlace, Instr.sureAddr, addr_add]
  of_ := fun vs w => by simp [Instr.field, Tryz.runUnderlying487, part, asAgg, Tryz.isAgg3]; cases vs[3]? <;> simp
instance : Fld Tryz.prog 487 3 4 1 false where
  at_ := fun b o w => by simp [Instr.fieldAt, Tryz.runUnderlying487, Tryz.sizeOf4, fieldPlace, Instr.sureAddr, addr_add]
  of_ := fun vs w => by simp [Instr.field, Tryz.runUnderlying487, part, asAgg, Tryz.isAgg4]; cases vs[4]? <;> simp
instance : Fld Tryz.prog 500 0 0 1 false where
  at_ := fun b o w => by simp [Instr.fieldAt, Tryz.runUnderlying500, Tryz.sizeOf3, fieldPlace, Instr.sureAddr, addr_add]
  of_ := fun vs w => by simp [Instr.field, Tryz.runUnderlying500, part, asAgg, Tryz.isAgg3]; cases vs[0]? <;> simp
instance : Fld Tryz.prog 500 1 1 1 false where
  at_ := fun b o w => by simp [Instr.fieldAt, Tryz.runUnderlying500, Tryz.sizeOf23, fieldPlace, Instr.sureAddr, addr_add]
  of_ := fun vs w => by simp [Instr.field, Tryz.runUnderlying500, part, asAgg, Tryz.isAgg23]; cases vs[1]? <;> simp
instance : Flds Tryz.prog 25 [(0, 1), (1, 1), (2, 1), (3, 1), (4, 1), (5, 1), (6, 1), (7, 1)] [.int .i64 0, .int .i64 0, .int .u32 0, .int .u32 0, .int .u32 0, .int .u32 0, .int .u32 0, .int .u32 0] where
  run := fun ps w l h hne => by
    have hf := fill_of (place := fun i => (#[(0, 1), (1, 1), (2, 1), (3, 1), (4, 1), (5, 1), (6, 1), (7, 1)] : Array (Nat × Nat))[i]?) (fun i => by simp) ps.toList _ _ h hne
    simp [Instr.build, Tryz.zeroValue25, Value.cells, Tryz.runUnderlying25, Tryz.sizeOf23, Tryz.sizeOf3] at hf ⊢
    simp [hf]
instance : Flds Tryz.prog 29 [(0, 1), (1, 1)] [.slice none 0 0, .int .i64 0] where
  run := fun ps w l h hne => by
    have hf := fill_of (place := fun i => (#[(0, 1), (1, 1)] : Array (Nat × Nat))[i]?) (fun i => by simp) ps.toList _ _ h hne
    simp [Instr.build, Tryz.zeroValue29, Value.cells, Tryz.runUnderlying29, Tryz.sizeOf22, Tryz.sizeOf3] at hf ⊢
    simp [hf]
instance : Flds Tryz.prog 31 [(0, 1), (1, 1), (2, 1), (3, 1), (4, 1)] [.int .i64 0, .int .i64 0, .int .i64 0, .int .i64 0, .bool false] where
  run := fun ps w l h hne => by
    have hf := fill_of (place := fun i => (#[(0, 1), (1, 1), (2, 1), (3, 1), (4, 1)] : Array (Nat × Nat))[i]?) (fun i => by simp) ps.toList _ _ h hne
    simp [Instr.build, Tryz.zeroValue31, Value.cells, Tryz.runUnderlying31, Tryz.sizeOf3, Tryz.sizeOf4] at hf ⊢
    simp [hf]
instance : Flds Tryz.prog 41 [(0, 1), (1, 1)] [.int .i64 0, .int .i64 0] where
  run := fun ps w l h hne => by
    have hf := fill_of (place := fun i => (#[(0, 1), (1, 1)] : Array (Nat × Nat))[i]?) (fun i => by simp) ps.toList _ _ h hne
    simp [Instr.build, Tryz.zeroValue41, Value.cells, Tryz.runUnderlying41, Tryz.sizeOf3] at hf ⊢
    simp [hf]
instance : Flds Tryz.prog 73 [(0, 2), (2, 1), (3, 1), (4, 1), (5, 1), (6, 1)] [.int .i64 0, .int .i64 0, .int .u32 0, .int .i64 0, .int .i64 0, .int .u32 0, .bool false] where
  run := fun ps w l h hne => by
    have hf := fill_of (place := fun i => (#[(0, 2), (2, 1), (3, 1), (4, 1), (5, 1), (6, 1)] : Array (Nat × Nat))[i]?) (fun i => by simp) ps.toList _ _ h hne
    simp [Instr.build, Tryz.zeroValue73, Value.cells, Tryz.runUnderlying73, Tryz.sizeOf23, Tryz.sizeOf3, Tryz.sizeOf4, Tryz.sizeOf41] at hf ⊢
    simp [hf]
instance : Flds Tryz.prog 84 [(0, 1), (1, 1), (2, 1), (3, 1)] [.int .u32 0, .int .i32 0, .int .u32 0, .int .u32 0] where
  run := fun ps w l h hne => by
    have hf := fill_of (place := fun i => (#[(0, 1), (1, 1), (2, 1), (3, 1)] : Array (Nat × Nat))[i]?) (fun i => by simp) ps.toList _ _ h hne
    simp [Instr.build, Tryz.zeroValue84, Value.cells, Tryz.runUnderlying84, Tryz.sizeOf21, Tryz.sizeOf23] at hf ⊢
    simp [hf]
instance : Flds Tryz.prog 101 [(0, 1), (1, 1)] [.int .i64 0, .int .i64 0] where
  run := fun ps w l h hne => by
    have hf := fill_of (place := fun i => (#[(0, 1), (1, 1)] : Array (Nat × Nat))[i]?) (fun i => by simp) ps.toList _ _ h hne
    simp [Instr.build, Tryz.zeroValue101, Value.cells, Tryz.runUnderlying101, Tryz.sizeOf3] at hf ⊢
    simp [hf]
instance : Flds Tryz.prog 103 [(0, 1), (1, 1), (2, 1), (3, 1), (4, 1)] [.int .i64 0, .int .i64 0, .int .i64 0, .int .i64 0, .int .i64 0] where
  run := fun ps w l h hne => by
    have hf := fill_of (place := fun i => (#[(0, 1), (1, 1), (2, 1), (3, 1), (4, 1)] : Array (Nat × Nat))[i]?) (fun i => by simp) ps.toList _ _ h hne
    simp [Instr.build, Tryz.zeroValue103, Value.cells, Tryz.runUnderlying103, Tryz.sizeOf3] at hf ⊢
    simp [hf]
instance : Flds Tryz.prog 140 [(0, 5), (5, 1), (6, 1), (7, 1), (8, 1), (9, 1), (10, 1), (11, 1), (12, 1), (13, 1), (14, 1), (15, 1), (16, 1)] [.int .i64 0, .int .i64 0, .int .i64 0, .int .i64 0, .bool false, .pointer none, .slice none 0 0, .slice none 0 0, .slice none 0 0, .slice none 0 0, .slice none 0 0, .slice none 0 0, .slice none 0 0, .int .u64 0, .slice none 0 0, .slice none 0 0, .slice none 0 0] where
  run := fun ps w l h hne => by
    have hf := fill_of (place := fun i => (#[(0, 5), (5, 1), (6, 1), (7, 1), (8, 1), (9, 1), (10, 1), (11, 1), (12, 1), (13, 1), (14, 1), (15, 1), (16, 1)] : Array (Nat × Nat))[i]?) (fun i => by simp) ps.toList _ _ h hne
    simp [Instr.build, Tryz.zeroValue140, Value.cells, Tryz.runUnderlying140, Tryz.sizeOf116, Tryz.sizeOf119, Tryz.sizeOf122, Tryz.sizeOf125, Tryz.sizeOf128, Tryz.sizeOf131, Tryz.sizeOf134, Tryz.sizeOf136, Tryz.sizeOf137, Tryz.sizeOf138, Tryz.sizeOf22, Tryz.sizeOf31, Tryz.sizeOf93] at hf ⊢
    simp [hf]
instance : Flds Tryz.prog 146 [(0, 1), (1, 1), (2, 1), (3, 1), (4, 1), (5, 1), (6, 1), (7, 1)] [.pointer none, .int .i64 0, .int .i64 0, .int .i64 0, .int .i64 0, .int .u32 0, .int .u32 0, .slice none 0 0] where
  run := fun ps w l h hne => by
    have hf := fill_of (place := fun i => (#[(0, 1), (1, 1), (2, 1), (3, 1), (4, 1), (5, 1), (6, 1), (7, 1)] : Array (Nat × Nat))[i]?) (fun i => by simp) ps.toList _ _ h hne
    simp [Instr.build, Tryz.zeroValue146, Value.cells, Tryz.runUnderlying146, Tryz.sizeOf116, Tryz.sizeOf23, Tryz.sizeOf3, Tryz.sizeOf79] at hf ⊢
    simp [hf]
instance : Flds Tryz.prog 152 [(0, 1), (1, 1), (2, 1)] [.int .i64 0, .int .i64 0, .slice none 0 0] where
  run := fun ps w l h hne => by
    have hf := fill_of (place := fun i => (#[(0, 1), (1, 1), (2, 1)] : Array (Nat × Nat))[i]?) (fun i => by simp) ps.toList _ _ h hne
    simp [Instr.build, Tryz.zeroValue152, Value.cells, Tryz.runUnderlying152, Tryz.sizeOf3, Tryz.sizeOf57] at hf ⊢
    simp [hf]
instance : Flds Tryz.prog 167 [(0, 3), (3, 1), (4, 1)] [.int .i64 0, .int .i64 0, .slice none 0 0, .slice none 0 0, .int .i64 0] where
  run := fun ps w l h hne => by
    have hf := fill_of (place := fun i => (#[(0, 3), (3, 1), (4, 1)] : Array (Nat × Nat))[i]?) (fun i => by simp) ps.toList _ _ h hne
    simp [Instr.build, Tryz.zeroValue167, Value.cells, Tryz.runUnderlying167, Tryz.sizeOf152, Tryz.sizeOf3, Tryz.sizeOf88] at hf ⊢
    simp [hf]
instance : Flds Tryz.prog 169 [(0, 1), (1, 1)] [.pointer none, .int .i64 0] where
  run := fun ps w l h hne => by
    have hf := fill_of (place := fun i => (#[(0, 1), (1, 1)] : Array (Nat × Nat))[i]?) (fun i => by simp) ps.toList _ _ h hne
    simp [Instr.build, Tryz.zeroValue169, Value.cells, Tryz.runUnderlying169, Tryz.sizeOf3, Tryz.sizeOf35] at hf ⊢
    simp [hf]
instance : Flds Tryz.prog 179 [(0, 1), (1, 1), (2, 1), (3, 5)] [.int .i64 0, .int .i64 0, .int .i64 0, .int .i64 0, .int .i64 0, .int .i64 0, .int .i64 0, .int .i64 0] where
  run := fun ps w l h hne => by
    have hf := fill_of (place := fun i => (#[(0, 1), (1, 1), (2, 1), (3, 5)] : Array (Nat × Nat))[i]?) (fun i => by simp) ps.toList _ _ h hne
    simp [Instr.build, Tryz.zeroValue179, Value.cells, Tryz.runUnderlying179, Tryz.sizeOf103, Tryz.sizeOf3] at hf ⊢
    simp [hf]
instance : Flds Tryz.prog 195 [(0, 1), (1, 1)] [.int .i64 0, .int .i64 0] where
  run := fun ps w l h hne => by
    have hf := fill_of (place := fun i => (#[(0, 1), (1, 1)] : Array (Nat × Nat))[i]?) (fun i => by simp) ps.toList _ _ h hne
    simp [Instr.build, Tryz.zeroValue195, Value.cells, Tryz.runUnderlying195, Tryz.sizeOf3] at hf ⊢
    simp [hf]
instance : Flds Tryz.prog 210 [(0, 2), (2, 8), (10, 1), (11, 1), (12, 1)] [.int .i64 0, .int .i64 0, .int .i64 0, .int .i64 0, .int .u32 0, .int .u32 0, .int .u32 0, .int .u32 0, .int .u32 0, .int .u32 0, .int .i64 0, .bool false, .bool false] where
  run := fun ps w l h hne => by
    have hf := fill_of (place := fun i => (#[(0, 2), (2, 8), (10, 1), (11, 1), (12, 1)] : Array (Nat × Nat))[i]?) (fun i => by simp) ps.toList _ _ h hne
    simp [Instr.build, Tryz.zeroValue210, Value.cells, Tryz.runUnderlying210, Tryz.sizeOf25, Tryz.sizeOf3, Tryz.sizeOf4, Tryz.sizeOf41] at hf ⊢
    simp [hf]
instance : Flds Tryz.prog 260 [(0, 5), (5, 1), (6, 1), (7, 1), (8, 1), (9, 1), (10, 1), (11, 1), (12, 1), (13, 1), (14, 1), (15, 1), (16, 1), (17, 1), (18, 1), (19, 1), (20, 1), (21, 1), (22, 1)] [.int .i64 0, .int .i64 0, .int .i64 0, .int .i64 0, .bool false, .pointer none, .map none, .map none, .map none, .slice none 0 0, .map none, .slice none 0 0, .slice none 0 0, .map none, .map none, .map none, .map none, .map none, .map none, .map none, .map none, .map none, .int .u64 0] where
  run := fun ps w l h hne => by
    have hf := fill_of (place := fun i => (#[(0, 5), (5, 1), (6, 1), (7, 1), (8, 1), (9, 1), (10, 1), (11, 1), (12, 1), (13, 1), (14, 1), (15, 1), (16, 1), (17, 1), (18, 1), (19, 1), (20, 1), (21, 1), (22, 1)] : Array (Nat × Nat))[i]?) (fun i => by simp) ps.toList _ _ h hne
    simp [Instr.build, Tryz.zeroValue260, Value.cells, Tryz.runUnderlying260, Tryz.sizeOf231, Tryz.sizeOf232, Tryz.sizeOf233, Tryz.sizeOf234, Tryz.sizeOf235, Tryz.sizeOf236, Tryz.sizeOf237, Tryz.sizeOf238, Tryz.sizeOf241, Tryz.sizeOf244, Tryz.sizeOf247, Tryz.sizeOf250, Tryz.sizeOf253, Tryz.sizeOf256, Tryz.sizeOf258, Tryz.sizeOf31, Tryz.sizeOf59, Tryz.sizeOf93] at hf ⊢
    simp [hf]
instance : Flds Tryz.prog 263 [(0, 1), (1, 1)] [.slice none 0 0, .slice none 0 0] where
  run := fun ps w l h hne => by
    have hf := fill_of (place := fun i => (#[(0, 1), (1, 1)] : Array (Nat × Nat))[i]?) (fun i => by simp) ps.toList _ _ h hne
    simp [Instr.build, Tryz.zeroValue263, Value.cells, Tryz.runUnderlying263, Tryz.sizeOf107, Tryz.sizeOf261] at hf ⊢
    simp [hf]
instance : Flds Tryz.prog 270 [(0, 1), (1, 2)] [.int .u32 0, .slice none 0 0, .map none] where
  run := fun ps w l h hne => by
    have hf := fill_of (place := fun i => (#[(0, 1), (1, 2)] : Array (Nat × Nat))[i]?) (fun i => by simp) ps.toList _ _ h hne
    simp [Instr.build, Tryz.zeroValue270, Value.cells, Tryz.runUnderlying270, Tryz.sizeOf23, Tryz.sizeOf268] at hf ⊢
    simp [hf]
instance : Flds Tryz.prog 274 [(0, 1), (1, 1), (2, 1), (3, 1)] [.int .i64 0, .int .i64 0, .int .i64 0, .int .u32 0] where
  run := fun ps w l h hne => by
    have hf := fill_of (place := fun i => (#[(0, 1), (1, 1), (2, 1), (3, 1)] : Array (Nat × Nat))[i]?) (fun i => by simp) ps.toList _ _ h hne
    simp [Instr.build, Tryz.zeroValue274, Value.cells, Tryz.runUnderlying274, Tryz.sizeOf23, Tryz.sizeOf3] at hf ⊢
    simp [hf]
instance : Flds Tryz.prog 277 [(0, 1), (1, 1), (2, 1), (3, 5)] [.int .i64 0, .int .i64 0, .int .i64 0, .int .i64 0, .int .i64 0, .int .i64 0, .int .i64 0, .int .i64 0] where
  run := fun ps w l h hne => by
    have hf := fill_of (place := fun i => (#[(0, 1), (1, 1), (2, 1), (3, 5)] : Array (Nat × Nat))[i]?) (fun i => by simp) ps.toList _ _ h hne
    simp [Instr.build, Tryz.zeroValue277, Value.cells, Tryz.runUnderlying277, Tryz.sizeOf103, Tryz.sizeOf3] at hf ⊢
    simp [hf]
instance : Flds Tryz.prog 282 [(0, 1), (1, 1), (2, 1), (3, 1), (4, 1), (5, 8), (13, 1)] [.int .i64 0, .pointer none, .pointer none, .pointer none, .pointer none, .int .i64 0, .int .i64 0, .int .i64 0, .int .i64 0, .int .i64 0, .int .i64 0, .int .i64 0, .int .i64 0, .int .i64 0] where
  run := fun ps w l h hne => by
    have hf := fill_of (place := fun i => (#[(0, 1), (1, 1), (2, 1), (3, 1), (4, 1), (5, 8), (13, 1)] : Array (Nat × Nat))[i]?) (fun i => by simp) ps.toList _ _ h hne
    simp [Instr.build, Tryz.zeroValue282, Value.cells, Tryz.runUnderlying282, Tryz.sizeOf143, Tryz.sizeOf277, Tryz.sizeOf278, Tryz.sizeOf279, Tryz.sizeOf280, Tryz.sizeOf3] at hf ⊢
    simp [hf]
instance : Flds Tryz.prog 284 [(0, 2), (2, 1)] [.int .i64 0, .int .i64 0, .bool false] where
  run := fun ps w l h hne => by
    have hf := fill_of (place := fun i => (#[(0, 2), (2, 1)] : Array (Nat × Nat))[i]?) (fun i => by simp) ps.toList _ _ h hne
    simp [Instr.build, Tryz.zeroValue284, Value.cells, Tryz.runUnderlying284, Tryz.sizeOf4, Tryz.sizeOf41] at hf ⊢
    simp [hf]
instance : Flds Tryz.prog 287 [(0, 1), (1, 1)] [.int .i64 0, .int .i64 0] where
  run := fun ps w l h hne => by
    have hf := fill_of (place := fun i => (#[(0, 1), (1, 1)] : Array (Nat × Nat))[i]?) (fun i => by simp) ps.toList _ _ h hne
    simp [Instr.build, Tryz.zeroValue287, Value.cells, Tryz.runUnderlying287, Tryz.sizeOf3] at hf ⊢
    simp [hf]
instance : Flds Tryz.prog 289 [(0, 1), (1, 1)] [.int .i64 0, .int .i64 0] where
  run := fun ps w l h hne => by
    have hf := fill_of (place := fun i => (#[(0, 1), (1, 1)] : Array (Nat × Nat))[i]?) (fun i => by simp) ps.toList _ _ h hne
    simp [Instr.build, Tryz.zeroValue289, Value.cells, Tryz.runUnderlying289, Tryz.sizeOf3] at hf ⊢
    simp [hf]
instance : Flds Tryz.prog 293 [(0, 1), (1, 1)] [.slice none 0 0, .slice none 0 0] where
  run := fun ps w l h hne => by
    have hf := fill_of (place := fun i => (#[(0, 1), (1, 1)] : Array (Nat × Nat))[i]?) (fun i => by simp) ps.toList _ _ h hne
    simp [Instr.build, Tryz.zeroValue293, Value.cells, Tryz.runUnderlying293, Tryz.sizeOf290, Tryz.sizeOf291] at hf ⊢
    simp [hf]
instance : Flds Tryz.prog 297 [(0, 1), (1, 1)] [.int .u32 0, .slice none 0 0] where
  run := fun ps w l h hne => by
    have hf := fill_of (place := fun i => (#[(0, 1), (1, 1)] : Array (Nat × Nat))[i]?) (fun i => by simp) ps.toList _ _ h hne
    simp [Instr.build, Tryz.zeroValue297, Value.cells, Tryz.runUnderlying297, Tryz.sizeOf23, Tryz.sizeOf295] at hf ⊢
    simp [hf]
instance : Flds Tryz.prog 299 [(0, 2), (2, 8), (10, 1), (11, 1), (12, 1)] [.int .i64 0, .int .i64 0, .int .i64 0, .int .i64 0, .int .u32 0, .int .u32 0, .int .u32 0, .int .u32 0, .int .u32 0, .int .u32 0, .int .i64 0, .bool false, .bool false] where
  run := fun ps w l h hne => by
    have hf := fill_of (place := fun i => (#[(0, 2), (2, 8), (10, 1), (11, 1), (12, 1)] : Array (Nat × Nat))[i]?) (fun i => by simp) ps.toList _ _ h hne
    simp [Instr.build, Tryz.zeroValue299, Value.cells, Tryz.runUnderlying299, Tryz.sizeOf25, Tryz.sizeOf3, Tryz.sizeOf4, Tryz.sizeOf41] at hf ⊢
    simp [hf]
instance : Flds Tryz.prog 308 [(0, 1), (1, 1), (2, 1)] [.int .i64 0, .int .u32 0, .bool false] where
  run := fun ps w l h hne => by
    have hf := fill_of (place := fun i => (#[(0, 1), (1, 1), (2, 1)] : Array (Nat × Nat))[i]?) (fun i => by simp) ps.toList _ _ h hne
    simp [Instr.build, Tryz.zeroValue308, Value.cells, Tryz.runUnderlying308, Tryz.sizeOf23, Tryz.sizeOf3, Tryz.sizeOf4] at hf ⊢
    simp [hf]
instance : Flds Tryz.prog 311 [(0, 1), (1, 8), (9, 13), (22, 2)] [.pointer none, .int .i64 0, .int .i64 0, .int .i64 0, .int .i64 0, .int .i64 0, .int .i64 0, .int .i64 0, .int .i64 0, .int .i64 0, .int .i64 0, .int .i64 0, .int .i64 0, .int .u32 0, .int .u32 0, .int .u32 0, .int .u32 0, .int .u32 0, .int .u32 0, .int .i64 0, .bool false, .bool false, .int .i64 0, .int .i64 0] where
  run := fun ps w l h hne => by
    have hf := fill_of (place := fun i => (#[(0, 1), (1, 8), (9, 13), (22, 2)] : Array (Nat × Nat))[i]?) (fun i => by simp) ps.toList _ _ h hne
    simp [Instr.build, Tryz.zeroValue311, Value.cells, Tryz.runUnderlying311, Tryz.sizeOf179, Tryz.sizeOf210, Tryz.sizeOf33, Tryz.sizeOf41] at hf ⊢
    simp [hf]
instance : Flds Tryz.prog 317 [(0, 1), (1, 13), (14, 8)] [.pointer none, .int .i64 0, .int .i64 0, .int .i64 0, .int .i64 0, .int .u32 0, .int .u32 0, .int .u32 0, .int .u32 0, .int .u32 0, .int .u32 0, .int .i64 0, .bool false, .bool false, .int .i64 0, .int .i64 0, .int .i64 0, .int .i64 0, .int .i64 0, .int .i64 0, .int .i64 0, .int .i64 0] where
  run := fun ps w l h hne => by
    have hf := fill_of (place := fun i => (#[(0, 1), (1, 13), (14, 8)] : Array (Nat × Nat))[i]?) (fun i => by simp) ps.toList _ _ h hne
    simp [Instr.build, Tryz.zeroValue317, Value.cells, Tryz.runUnderlying317, Tryz.sizeOf277, Tryz.sizeOf299, Tryz.sizeOf35] at hf ⊢
    simp [hf]
instance : Flds Tryz.prog 331 [(0, 1), (1, 1)] [.int .i64 0, .int .i64 0] where
  run := fun ps w l h hne => by
    have hf := fill_of (place := fun i => (#[(0, 1), (1, 1)] : Array (Nat × Nat))[i]?) (fun i => by simp) ps.toList _ _ h hne
    simp [Instr.build, Tryz.zeroValue331, Value.cells, Tryz.runUnderlying331, Tryz.sizeOf3] at hf ⊢
    simp [hf]
instance : Flds Tryz.prog 341 [(0, 1), (1, 1), (2, 1), (3, 1), (4, 1), (5, 1), (6, 1), (7, 1)] [.pointer none, .int .i64 0, .int .i64 0, .int .i64 0, .int .i64 0, .int .u32 0, .int .u32 0, .slice none 0 0] where
  run := fun ps w l h hne => by
    have hf := fill_of (place := fun i => (#[(0, 1), (1, 1), (2, 1), (3, 1), (4, 1), (5, 1), (6, 1), (7, 1)] : Array (Nat × Nat))[i]?) (fun i => by simp) ps.toList _ _ h hne
    simp [Instr.build, Tryz.zeroValue341, Value.cells, Tryz.runUnderlying341, Tryz.sizeOf23, Tryz.sizeOf3, Tryz.sizeOf59, Tryz.sizeOf79] at hf ⊢
    simp [hf]
instance : Flds Tryz.prog 351 [(0, 5), (5, 2)] [.int .i64 0, .int .i64 0, .int .i64 0, .int .i64 0, .int .i64 0, .int .i64 0, .int .i64 0] where
  run := fun ps w l h hne => by
    have hf := fill_of (place := fun i => (#[(0, 5), (5, 2)] : Array (Nat × Nat))[i]?) (fun i => by simp) ps.toList _ _ h hne
    simp [Instr.build, Tryz.zeroValue351, Value.cells, Tryz.runUnderlying351, Tryz.sizeOf101, Tryz.sizeOf103] at hf ⊢
    simp [hf]
instance : Flds Tryz.prog 354 [(0, 2), (2, 1)] [.int .i64 0, .int .i64 0, .bool false] where
  run := fun ps w l h hne => by
    have hf := fill_of (place := fun i => (#[(0, 2), (2, 1)] : Array (Nat × Nat))[i]?) (fun i => by simp) ps.toList _ _ h hne
    simp [Instr.build, Tryz.zeroValue354, Value.cells, Tryz.runUnderlying354, Tryz.sizeOf4, Tryz.sizeOf41] at hf ⊢
    simp [hf]
instance : Flds Tryz.prog 358 [(0, 2), (2, 1)] [.int .i64 0, .int .i64 0, .int .i64 0] where
  run := fun ps w l h hne => by
    have hf := fill_of (place := fun i => (#[(0, 2), (2, 1)] : Array (Nat × Nat))[i]?) (fun i => by simp) ps.toList _ _ h hne
    simp [Instr.build, Tryz.zeroValue358, Value.cells, Tryz.runUnderlying358, Tryz.sizeOf3, Tryz.sizeOf41] at hf ⊢
    simp [hf]
instance : Flds Tryz.prog 371 [(0, 1)] [.slice none 0 0] where
  run := fun ps w l h hne => by
    have hf := fill_of (place := fun i => (#[(0, 1)] : Array (Nat × Nat))[i]?) (fun i => by simp) ps.toList _ _ h hne
    simp [Instr.build, Tryz.zeroValue371, Value.cells, Tryz.runUnderlying371, Tryz.sizeOf359] at hf ⊢
    simp [hf]
instance : Flds Tryz.prog 373 [(0, 1), (1, 1)] [.pointer none, .int .i64 0] where
  run := fun ps w l h hne => by
    have hf := fill_of (place := fun i => (#[(0, 1), (1, 1)] : Array (Nat × Nat))[i]?) (fun i => by simp) ps.toList _ _ h hne
    simp [Instr.build, Tryz.zeroValue373, Value.cells, Tryz.runUnderlying373, Tryz.sizeOf3, Tryz.sizeOf33] at hf ⊢
    simp [hf]
instance : Flds Tryz.prog 415 [(0, 1)] [.slice none 0 0] where
  run := fun ps w l h hne => by
    have hf := fill_of (place := fun i => (#[(0, 1)] : Array (Nat × Nat))[i]?) (fun i => by simp) ps.toList _ _ h hne
    simp [Instr.build, Tryz.zeroValue415, Value.cells, Tryz.runUnderlying415, Tryz.sizeOf359] at hf ⊢
    simp [hf]
instance : Flds Tryz.prog 418 [(0, 1), (1, 1)] [.int .i64 0, .int .u32 0] where
  run := fun ps w l h hne => by
    have hf := fill_of (place := fun i => (#[(0, 1), (1, 1)] : Array (Nat × Nat))[i]?) (fun i => by simp) ps.toList _ _ h hne
    simp [Instr.build, Tryz.zeroValue418, Value.cells, Tryz.runUnderlying418, Tryz.sizeOf23, Tryz.sizeOf3] at hf ⊢
    simp [hf]
instance : Flds Tryz.prog 424 [(0, 2), (2, 2), (4, 5)] [.int .i64 0, .int .i64 0, .int .i64 0, .int .i64 0, .int .i64 0, .int .i64 0, .int .i64 0, .int .i64 0, .int .i64 0] where
  run := fun ps w l h hne => by
    have hf := fill_of (place := fun i => (#[(0, 2), (2, 2), (4, 5)] : Array (Nat × Nat))[i]?) (fun i => by simp) ps.toList _ _ h hne
    simp [Instr.build, Tryz.zeroValue424, Value.cells, Tryz.runUnderlying424, Tryz.sizeOf101, Tryz.sizeOf103] at hf ⊢
    simp [hf]
instance : Flds Tryz.prog 428 [(0, 2), (2, 2)] [.int .i64 0, .int .i64 0, .int .i64 0, .int .i64 0] where
  run := fun ps w l h hne => by
    have hf := fill_of (place := fun i => (#[(0, 2), (2, 2)] : Array (Nat × Nat))[i]?) (fun i => by simp) ps.toList _ _ h hne
    simp [Instr.build, Tryz.zeroValue428, Value.cells, Tryz.runUnderlying428, Tryz.sizeOf287, Tryz.sizeOf289] at hf ⊢
    simp [hf]
instance : Flds Tryz.prog 431 [(0, 1), (1, 1)] [.int .i64 0, .int .i64 0] where
  run := fun ps w l h hne => by
    have hf := fill_of (place := fun i => (#[(0, 1), (1, 1)] : Array (Nat × Nat))[i]?) (fun i => by simp) ps.toList _ _ h hne
    simp [Instr.build, Tryz.zeroValue431, Value.cells, Tryz.runUnderlying431, Tryz.sizeOf3] at hf ⊢
    simp [hf]
instance : Flds Tryz.prog 456 [(0, 2), (2, 1)] [.int .i64 0, .int .i64 0, .int .i64 0] where
  run := fun ps w l h hne => by
    have hf := fill_of (place := fun i => (#[(0, 2), (2, 1)] : Array (Nat × Nat))[i]?) (fun i => by simp) ps.toList _ _ h hne
    simp [Instr.build, Tryz.zeroValue456, Value.cells, Tryz.runUnderlying456, Tryz.sizeOf3, Tryz.sizeOf41] at hf ⊢
    simp [hf]
instance : Flds Tryz.prog 460 [(0, 2), (2, 1), (3, 1), (4, 1)] [.int .i64 0, .int .i64 0, .int .u32 0, .int .i64 0, .bool false] where
  run := fun ps w l h hne => by
    have hf := fill_of (place := fun i => (#[(0, 2), (2, 1), (3, 1), (4, 1)] : Array (Nat × Nat))[i]?) (fun i => by simp) ps.toList _ _ h hne
    simp [Instr.build, Tryz.zeroValue460, Value.cells, Tryz.runUnderlying460, Tryz.sizeOf23, Tryz.sizeOf3, Tryz.sizeOf4, Tryz.sizeOf41] at hf ⊢
    simp [hf]
instance : Flds Tryz.prog 474 [(0, 1), (1, 1)] [.int .i64 0, .int .i64 0] where
  run := fun ps w l h hne => by
    have hf := fill_of (place := fun i => (#[(0, 1), (1, 1)] : Array (Nat × Nat))[i]?) (fun i => by simp) ps.toList _ _ h hne
    simp [Instr.build, Tryz.zeroValue474, Value.cells, Tryz.runUnderlying474, Tryz.sizeOf3] at hf ⊢
    simp [hf]
instance : Flds Tryz.prog 477 [(0, 1), (1, 2)] [.int .u64 0, .int .i64 0, .int .i64 0] where
  run := fun ps w l h hne => by
    have hf := fill_of (place := fun i => (#[(0, 1), (1, 2)] : Array (Nat × Nat))[i]?) (fun i => by simp) ps.toList _ _ h hne
    simp [Instr.build, Tryz.zeroValue477, Value.cells, Tryz.runUnderlying477, Tryz.sizeOf41, Tryz.sizeOf93] at hf ⊢
    simp [hf]
instance : Flds Tryz.prog 479 [(0, 1), (1, 2)] [.int .u64 0, .int .i64 0, .int .i64 0] where
  run := fun ps w l h hne => by
    have hf := fill_of (place := fun i => (#[(0, 1), (1, 2)] : Array (Nat × Nat))[i]?) (fun i => by simp) ps.toList _ _ h hne
    simp [Instr.build, Tryz.zeroValue479, Value.cells, Tryz.runUnderlying479, Tryz.sizeOf41, Tryz.sizeOf93] at hf ⊢
    simp [hf]
instance : Flds Tryz.prog 481 [(0, 2), (2, 1)] [.int .i64 0, .int .i64 0, .int .i64 0] where
  run := fun ps w l h hne => by
    have hf := fill_of (place := fun i => (#[(0, 2), (2, 1)] : Array (Nat × Nat))[i]?) (fun i => by simp) ps.toList _ _ h hne
    simp [Instr.build, Tryz.zeroValue481, Value.cells, Tryz.runUnderlying481, Tryz.sizeOf3, Tryz.sizeOf331] at hf ⊢
    simp [hf]
instance : Flds Tryz.prog 487 [(0, 2), (2, 1), (3, 1), (4, 1)] [.int .i64 0, .int .i64 0, .int .u32 0, .int .i64 0, .bool false] where
  run := fun ps w l h hne => by
    have hf := fill_of (place := fun i => (#[(0, 2), (2, 1), (3, 1), (4, 1)] : Array (Nat × Nat))[i]?) (fun i => by simp) ps.toList _ _ h hne
    simp [Instr.build, Tryz.zeroValue487, Value.cells, Tryz.runUnderlying487, Tryz.sizeOf23, Tryz.sizeOf3, Tryz.sizeOf4, Tryz.sizeOf41] at hf ⊢
    simp [hf]
instance : Flds Tryz.prog 500 [(0, 1), (1, 1)] [.int .i64 0, .int .u32 0] where
  run := fun ps w l h hne => by
    have hf := fill_of (place := fun i => (#[(0, 1), (1, 1)] : Array (Nat × Nat))[i]?) (fun i => by simp) ps.toList _ _ h hne
    simp [Instr.build, Tryz.zeroValue500, Value.cells, Tryz.runUnderlying500, Tryz.sizeOf23, Tryz.sizeOf3] at hf ⊢
    simp [hf]
instance : Eq2 Tryz.prog 41 where
  eq := fun a b c d w => by
    rw [run_equal_succ, Op.equalIn]
    have h1 : ∀ (x y : Int) (w : World), (Op.equalIn 9999 3 (.int .i64 x) (.int .i64 y)).run Tryz.prog w = .ok (x == y) w := by
      intro x y w
      rw [show (9999 : Nat) = 9998 + 1 from rfl, Op.equalIn]
      simp [Tryz.runUnderlying3]
    simp [Tryz.runUnderlying41, Tryz.stoodInHeld41, part, Tryz.isAgg3, h1]
    by_cases h : a = c <;> by_cases h' : b = d <;> simp [h, h']
  guard := Tryz.eqGuardType41
  check := fun a b e w => by
    rw [show (10000 : Nat) = 9999 + 1 from rfl, Instr.checkKey]
    have h1 : ∀ (x : Int) (w : World), (Instr.checkKey e 9999 3 (.int .i64 x)).run Tryz.prog w = .ok () w := by
      intro x w
      rw [show (9999 : Nat) = 9998 + 1 from rfl, Instr.checkKey]
      simp [Tryz.runUnderlying3]
    simp [Tryz.runUnderlying41, part, Tryz.isAgg3, h1]
  st := ⟨_, Tryz.underlying41⟩
instance : Eq2 Tryz.prog 101 where
  eq := fun a b c d w => by
    rw [run_equal_succ, Op.equalIn]
    have h1 : ∀ (x y : Int) (w : World), (Op.equalIn 9999 3 (.int .i64 x) (.int .i64 y)).run Tryz.prog w = .ok (x == y) w := by
      intro x y w
      rw [show (9999 : Nat) = 9998 + 1 from rfl, Op.equalIn]
      simp [Tryz.runUnderlying3]
    simp [Tryz.runUnderlying101, Tryz.stoodInHeld101, part, Tryz.isAgg3, h1]
    by_cases h : a = c <;> by_cases h' : b = d <;> simp [h, h']
  guard := Tryz.eqGuardType101
  check := fun a b e w => by
    rw [show (10000 : Nat) = 9999 + 1 from rfl, Instr.checkKey]
    have h1 : ∀ (x : Int) (w : World), (Instr.checkKey e 9999 3 (.int .i64 x)).run Tryz.prog w = .ok () w := by
      intro x w
      rw [show (9999 : Nat) = 9998 + 1 from rfl, Instr.checkKey]
      simp [Tryz.runUnderlying3]
    simp [Tryz.runUnderlying101, part, Tryz.isAgg3, h1]
  st := ⟨_, Tryz.underlying101⟩
instance : Eq2 Tryz.prog 195 where
  eq := fun a b c d w => by
    rw [run_equal_succ, Op.equalIn]
    have h1 : ∀ (x y : Int) (w : World), (Op.equalIn 9999 3 (.int .i64 x) (.int .i64 y)).run Tryz.prog w = .ok (x == y) w := by
      intro x y w
      rw [show (9999 : Nat) = 9998 + 1 from rfl, Op.equalIn]
      simp [Tryz.runUnderlying3]
    simp [Tryz.runUnderlying195, Tryz.stoodInHeld195, part, Tryz.isAgg3, h1]
    by_cases h : a = c <;> by_cases h' : b = d <;> simp [h, h']
  guard := Tryz.eqGuardType195
  check := fun a b e w => by
    rw [show (10000 : Nat) = 9999 + 1 from rfl, Instr.checkKey]
    have h1 : ∀ (x : Int) (w : World), (Instr.checkKey e 9999 3 (.int .i64 x)).run Tryz.prog w = .ok () w := by
      intro x w
      rw [show (9999 : Nat) = 9998 + 1 from rfl, Instr.checkKey]
      simp [Tryz.runUnderlying3]
    simp [Tryz.runUnderlying195, part, Tryz.isAgg3, h1]
  st := ⟨_, Tryz.underlying195⟩
instance : Eq2 Tryz.prog 287 where
  eq := fun a b c d w => by
    rw [run_equal_succ, Op.equalIn]
    have h1 : ∀ (x y : Int) (w : World), (Op.equalIn 9999 3 (.int .i64 x) (.int .i64 y)).run Tryz.prog w = .ok (x == y) w := by
      intro x y w
      rw [show (9999 : Nat) = 9998 + 1 from rfl, Op.equalIn]
      simp [Tryz.runUnderlying3]
    simp [Tryz.runUnderlying287, Tryz.stoodInHeld287, part, Tryz.isAgg3, h1]
    by_cases h : a = c <;> by_cases h' : b = d <;> simp [h, h']
  guard := Tryz.eqGuardType287
  check := fun a b e w => by
    rw [show (10000 : Nat) = 9999 + 1 from rfl, Instr.checkKey]
    have h1 : ∀ (x : Int) (w : World), (Instr.checkKey e 9999 3 (.int .i64 x)).run Tryz.prog w = .ok () w := by
      intro x w
      rw [show (9999 : Nat) = 9998 + 1 from rfl, Instr.checkKey]
      simp [Tryz.runUnderlying3]
    simp [Tryz.runUnderlying287, part, Tryz.isAgg3, h1]
  st := ⟨_, Tryz.underlying287⟩
instance : Eq2 Tryz.prog 289 where
  eq := fun a b c d w => by
    rw [run_equal_succ, Op.equalIn]
    have h1 : ∀ (x y : Int) (w : World), (Op.equalIn 9999 3 (.int .i64 x) (.int .i64 y)).run Tryz.prog w = .ok (x == y) w := by
      intro x y w
      rw [show (9999 : Nat) = 9998 + 1 from rfl, Op.equalIn]
      simp [Tryz.runUnderlying3]
    simp [Tryz.runUnderlying289, Tryz.stoodInHeld289, part, Tryz.isAgg3, h1]
    by_cases h : a = c <;> by_cases h' : b = d <;> simp [h, h']
  guard := Tryz.eqGuardType289
  check := fun a b e w => by
    rw [show (10000 : Nat) = 9999 + 1 from rfl, Instr.checkKey]
    have h1 : ∀ (x : Int) (w : World), (Instr.checkKey e 9999 3 (.int .i64 x)).run Tryz.prog w = .ok () w := by
      intro x w
      rw [show (9999 : Nat) = 9998 + 1 from rfl, Instr.checkKey]
      simp [Tryz.runUnderlying3]
    simp [Tryz.runUnderlying289, part, Tryz.isAgg3, h1]
  st := ⟨_, Tryz.underlying289⟩
instance : Eq2 Tryz.prog 331 where
  eq := fun a b c d w => by
    rw [run_equal_succ, Op.equalIn]
    have h1 : ∀ (x y : Int) (w : World), (Op.equalIn 9999 3 (.int .i64 x) (.int .i64 y)).run Tryz.prog w = .ok (x == y) w := by
      intro x y w
      rw [show (9999 : Nat) = 9998 + 1 from rfl, Op.equalIn]
      simp [Tryz.runUnderlying3]
    simp [Tryz.runUnderlying331, Tryz.stoodInHeld331, part, Tryz.isAgg3, h1]
    by_cases h : a = c <;> by_cases h' : b = d <;> simp [h, h']
  guard := Tryz.eqGuardType331
  check := fun a b e w => by
    rw [show (10000 : Nat) = 9999 + 1 from rfl, Instr.checkKey]
    have h1 : ∀ (x : Int) (w : World), (Instr.checkKey e 9999 3 (.int .i64 x)).run Tryz.prog w = .ok () w := by
      intro x w
      rw [show (9999 : Nat) = 9998 + 1 from rfl, Instr.checkKey]
      simp [Tryz.runUnderlying3]
    simp [Tryz.runUnderlying331, part, Tryz.isAgg3, h1]
  st := ⟨_, Tryz.underlying331⟩
instance : Eq2 Tryz.prog 431 where
  eq := fun a b c d w => by
    rw [run_equal_succ, Op.equalIn]
    have h1 : ∀ (x y : Int) (w : World), (Op.equalIn 9999 3 (.int .i64 x) (.int .i64 y)).run Tryz.prog w = .ok (x == y) w := by
      intro x y w
      rw [show (9999 : Nat) = 9998 + 1 from rfl, Op.equalIn]
      simp [Tryz.runUnderlying3]
    simp [Tryz.runUnderlying431, Tryz.stoodInHeld431, part, Tryz.isAgg3, h1]
    by_cases h : a = c <;> by_cases h' : b = d <;> simp [h, h']
  guard := Tryz.eqGuardType431
  check := fun a b e w => by
    rw [show (10000 : Nat) = 9999 + 1 from rfl, Instr.checkKey]
    have h1 : ∀ (x : Int) (w : World), (Instr.checkKey e 9999 3 (.int .i64 x)).run Tryz.prog w = .ok () w := by
      intro x w
      rw [show (9999 : Nat) = 9998 + 1 from rfl, Instr.checkKey]
      simp [Tryz.runUnderlying3]
    simp [Tryz.runUnderlying431, part, Tryz.isAgg3, h1]
  st := ⟨_, Tryz.underlying431⟩
instance : Eq2 Tryz.prog 474 where
  eq := fun a b c d w => by
    rw [run_equal_succ, Op.equalIn]
    have h1 : ∀ (x y : Int) (w : World), (Op.equalIn 9999 3 (.int .i64 x) (.int .i64 y)).run Tryz.prog w = .ok (x == y) w := by
      intro x y w
      rw [show (9999 : Nat) = 9998 + 1 from rfl, Op.equalIn]
      simp [Tryz.runUnderlying3]
    simp [Tryz.runUnderlying474, Tryz.stoodInHeld474, part, Tryz.isAgg3, h1]
    by_cases h : a = c <;> by_cases h' : b = d <;> simp [h, h']
  guard := Tryz.eqGuardType474
  check := fun a b e w => by
    rw [show (10000 : Nat) = 9999 + 1 from rfl, Instr.checkKey]
    have h1 : ∀ (x : Int) (w : World), (Instr.checkKey e 9999 3 (.int .i64 x)).run Tryz.prog w = .ok () w := by
      intro x w
      rw [show (9999 : Nat) = 9998 + 1 from rfl, Instr.checkKey]
      simp [Tryz.runUnderlying3]
    simp [Tryz.runUnderlying474, part, Tryz.isAgg3, h1]
  st := ⟨_, Tryz.underlying474⟩
theorem Tryz.mixed : Tryz.prog.follows .mixedOrders = true := by rfl
end Go.Proofs
