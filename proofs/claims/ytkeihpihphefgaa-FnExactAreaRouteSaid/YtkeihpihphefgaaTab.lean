/- What is known of this program's types and functions, as the abstract machine asks for it. -/
import Derived.Test.YtkeihpihphefgaaProg
import Derived.Test.YtkeihpihphefgaaAx9
namespace Go.Proofs.Ytkeihpihphefgaa
open Go.RowKit
instance : TB Try.prog 1 false 1 := ⟨Try.sizeOf1, Try.isAgg1, fun _ => rfl⟩
instance : TZ Try.prog 1 [.nilFunc] := ⟨⟨_, Try.zeroValue1, rfl, by simp [Value.oneCell']⟩⟩
instance : TB Try.prog 2 false 1 := ⟨Try.sizeOf2, Try.isAgg2, fun _ => rfl⟩
instance : TZ Try.prog 2 [.int .i64 0] := ⟨⟨_, Try.zeroValue2, rfl, by simp [Value.oneCell']⟩⟩
instance : TB Try.prog 3 false 1 := ⟨Try.sizeOf3, Try.isAgg3, fun _ => rfl⟩
instance : TZ Try.prog 3 [.int .i64 0] := ⟨⟨_, Try.zeroValue3, rfl, by simp [Value.oneCell']⟩⟩
instance : TB Try.prog 4 false 1 := ⟨Try.sizeOf4, Try.isAgg4, fun _ => rfl⟩
instance : TZ Try.prog 4 [.bool false] := ⟨⟨_, Try.zeroValue4, rfl, by simp [Value.oneCell']⟩⟩
instance : TB Try.prog 5 false 1 := ⟨Try.sizeOf5, Try.isAgg5, fun _ => rfl⟩
instance : TZ Try.prog 5 [.int .u8 0] := ⟨⟨_, Try.zeroValue5, rfl, by simp [Value.oneCell']⟩⟩
instance : TB Try.prog 6 false 1 := ⟨Try.sizeOf6, Try.isAgg6, fun _ => rfl⟩
instance : TZ Try.prog 6 [.int .u8 0] := ⟨⟨_, Try.zeroValue6, rfl, by simp [Value.oneCell']⟩⟩
instance : TB Try.prog 7 true 4 := ⟨Try.sizeOf7, Try.isAgg7, fun h => by cases h⟩
instance : TF Try.prog 7 0 0 1 := ⟨⟨_, _, Try.runUnderlying7, rfl, rfl, Try.sizeOf2, by decide⟩⟩
instance : TF Try.prog 7 1 1 1 := ⟨⟨_, _, Try.runUnderlying7, rfl, rfl, Try.sizeOf3, by decide⟩⟩
instance : TF Try.prog 7 2 2 1 := ⟨⟨_, _, Try.runUnderlying7, rfl, rfl, Try.sizeOf4, by decide⟩⟩
instance : TF Try.prog 7 3 3 1 := ⟨⟨_, _, Try.runUnderlying7, rfl, rfl, Try.sizeOf6, by decide⟩⟩
instance : TP Try.prog 7 [(0, 1), (1, 1), (2, 1), (3, 1)] := ⟨⟨_, Try.runUnderlying7, fun w => by simp [Try.sizeOf2, Try.sizeOf3, Try.sizeOf4, Try.sizeOf6]⟩⟩
instance : TZ Try.prog 7 [.int .i64 0, .int .i64 0, .bool false, .int .u8 0] := ⟨⟨_, Try.zeroValue7, rfl, by simp [Value.oneCell']⟩⟩
instance : TB Try.prog 8 true 4 := ⟨Try.sizeOf8, Try.isAgg8, fun h => by cases h⟩
instance : TF Try.prog 8 0 0 1 := ⟨⟨_, _, Try.runUnderlying8, rfl, rfl, Try.sizeOf2, by decide⟩⟩
instance : TF Try.prog 8 1 1 1 := ⟨⟨_, _, Try.runUnderlying8, rfl, rfl, Try.sizeOf3, by decide⟩⟩
instance : TF Try.prog 8 2 2 1 := ⟨⟨_, _, Try.runUnderlying8, rfl, rfl, Try.sizeOf4, by decide⟩⟩
instance : TF Try.prog 8 3 3 1 := ⟨⟨_, _, Try.runUnderlying8, rfl, rfl, Try.sizeOf6, by decide⟩⟩
instance : TP Try.prog 8 [(0, 1), (1, 1), (2, 1), (3, 1)] := ⟨⟨_, Try.runUnderlying8, fun w => by simp [Try.sizeOf2, Try.sizeOf3, Try.sizeOf4, Try.sizeOf6]⟩⟩
instance : TZ Try.prog 8 [.int .i64 0, .int .i64 0, .bool false, .int .u8 0] := ⟨⟨_, Try.zeroValue8, rfl, by simp [Value.oneCell']⟩⟩
instance : TB Try.prog 9 false 1 := ⟨Try.sizeOf9, Try.isAgg9, fun _ => rfl⟩
instance : TZ Try.prog 9 [.string ⟨#[]⟩] := ⟨⟨_, Try.zeroValue9, rfl, by simp [Value.oneCell']⟩⟩
instance : TB Try.prog 10 false 1 := ⟨Try.sizeOf10, Try.isAgg10, fun _ => rfl⟩
instance : TZ Try.prog 10 [.string ⟨#[]⟩] := ⟨⟨_, Try.zeroValue10, rfl, by simp [Value.oneCell']⟩⟩
instance : TB Try.prog 11 false 1 := ⟨Try.sizeOf11, Try.isAgg11, fun _ => rfl⟩
instance : TZ Try.prog 11 [.string ⟨#[]⟩] := ⟨⟨_, Try.zeroValue11, rfl, by simp [Value.oneCell']⟩⟩
instance : TB Try.prog 12 false 1 := ⟨Try.sizeOf12, Try.isAgg12, fun _ => rfl⟩
instance : TZ Try.prog 12 [.int .u64 0] := ⟨⟨_, Try.zeroValue12, rfl, by simp [Value.oneCell']⟩⟩
instance : TB Try.prog 13 true 2 := ⟨Try.sizeOf13, Try.isAgg13, fun h => by cases h⟩
instance : TF Try.prog 13 0 0 1 := ⟨⟨_, _, Try.runUnderlying13, rfl, rfl, Try.sizeOf9, by decide⟩⟩
instance : TF Try.prog 13 1 1 1 := ⟨⟨_, _, Try.runUnderlying13, rfl, rfl, Try.sizeOf12, by decide⟩⟩
instance : TP Try.prog 13 [(0, 1), (1, 1)] := ⟨⟨_, Try.runUnderlying13, fun w => by simp [Try.sizeOf12, Try.sizeOf9]⟩⟩
instance : TZ Try.prog 13 [.string ⟨#[]⟩, .int .u64 0] := ⟨⟨_, Try.zeroValue13, rfl, by simp [Value.oneCell']⟩⟩
instance : TB Try.prog 14 true 2 := ⟨Try.sizeOf14, Try.isAgg14, fun h => by cases h⟩
instance : TF Try.prog 14 0 0 1 := ⟨⟨_, _, Try.runUnderlying14, rfl, rfl, Try.sizeOf9, by decide⟩⟩
instance : TF Try.prog 14 1 1 1 := ⟨⟨_, _, Try.runUnderlying14, rfl, rfl, Try.sizeOf12, by decide⟩⟩
instance : TP Try.prog 14 [(0, 1), (1, 1)] := ⟨⟨_, Try.runUnderlying14, fun w => by simp [Try.sizeOf12, Try.sizeOf9]⟩⟩
instance : TZ Try.prog 14 [.string ⟨#[]⟩, .int .u64 0] := ⟨⟨_, Try.zeroValue14, rfl, by simp [Value.oneCell']⟩⟩
instance : TB Try.prog 15 false 1 := ⟨Try.sizeOf15, Try.isAgg15, fun _ => rfl⟩
instance : TZ Try.prog 15 [.pointer none] := ⟨⟨_, Try.zeroValue15, rfl, by simp [Value.oneCell']⟩⟩
instance : TB Try.prog 16 false 1 := ⟨Try.sizeOf16, Try.isAgg16, fun _ => rfl⟩
instance : TZ Try.prog 16 [.pointer none] := ⟨⟨_, Try.zeroValue16, rfl, by simp [Value.oneCell']⟩⟩
instance : TB Try.prog 17 false 1 := ⟨Try.sizeOf17, Try.isAgg17, fun _ => rfl⟩
instance : TZ Try.prog 17 [.pointer none] := ⟨⟨_, Try.zeroValue17, rfl, by simp [Value.oneCell']⟩⟩
instance : TB Try.prog 18 true 1 := ⟨Try.sizeOf18, Try.isAgg18, fun h => by cases h⟩
instance : TF Try.prog 18 0 0 1 := ⟨⟨_, _, Try.runUnderlying18, rfl, rfl, Try.sizeOf17, by decide⟩⟩
instance : TP Try.prog 18 [(0, 1)] := ⟨⟨_, Try.runUnderlying18, fun w => by simp [Try.sizeOf17]⟩⟩
instance : TZ Try.prog 18 [.pointer none] := ⟨⟨_, Try.zeroValue18, rfl, by simp [Value.oneCell']⟩⟩
instance : TB Try.prog 19 true 1 := ⟨Try.sizeOf19, Try.isAgg19, fun h => by cases h⟩
instance : TF Try.prog 19 0 0 1 := ⟨⟨_, _, Try.runUnderlying19, rfl, rfl, Try.sizeOf17, by decide⟩⟩
instance : TP Try.prog 19 [(0, 1)] := ⟨⟨_, Try.runUnderlying19, fun w => by simp [Try.sizeOf17]⟩⟩
instance : TZ Try.prog 19 [.pointer none] := ⟨⟨_, Try.zeroValue19, rfl, by simp [Value.oneCell']⟩⟩
instance : TB Try.prog 21 false 1 := ⟨Try.sizeOf21, Try.isAgg21, fun _ => rfl⟩
instance : TZ Try.prog 21 [.int .i32 0] := ⟨⟨_, Try.zeroValue21, rfl, by simp [Value.oneCell']⟩⟩
instance : TB Try.prog 22 false 1 := ⟨Try.sizeOf22, Try.isAgg22, fun _ => rfl⟩
instance : TZ Try.prog 22 [.slice none 0 0] := ⟨⟨_, Try.zeroValue22, rfl, by simp [Value.oneCell']⟩⟩
theorem info22 : (Try.prog.info? 5).map (fun i => (i.zero, i.size, i.bytes)) = some (some (.int .u8 0), 1, 1) := by kernel_rfl
instance : TS Try.prog 22 5 1 1 := ⟨Try.underlying22, by obtain ⟨i, h1, h2, h3, h4⟩ := info_parts info22; exact ⟨i, _, h1, h2, h3, h4, rfl⟩, by decide, by decide⟩
instance : TB Try.prog 23 false 1 := ⟨Try.sizeOf23, Try.isAgg23, fun _ => rfl⟩
instance : TZ Try.prog 23 [.slice none 0 0] := ⟨⟨_, Try.zeroValue23, rfl, by simp [Value.oneCell']⟩⟩
theorem info23 : (Try.prog.info? 70).map (fun i => (i.zero, i.size, i.bytes)) = some (some (.agg #[.int .i64 0, .int .i64 0, .int .i64 0]), 3, 24) := by kernel_rfl
instance : TS Try.prog 23 70 3 24 := ⟨Try.underlying23, by obtain ⟨i, h1, h2, h3, h4⟩ := info_parts info23; exact ⟨i, _, h1, h2, h3, h4, rfl⟩, by decide, by decide⟩
instance : TB Try.prog 24 true 2 := ⟨Try.sizeOf24, Try.isAgg24, fun h => by cases h⟩
instance : TF Try.prog 24 0 0 1 := ⟨⟨_, _, Try.runUnderlying24, rfl, rfl, Try.sizeOf3, by decide⟩⟩
instance : TF Try.prog 24 1 1 1 := ⟨⟨_, _, Try.runUnderlying24, rfl, rfl, Try.sizeOf23, by decide⟩⟩
instance : TP Try.prog 24 [(0, 1), (1, 1)] := ⟨⟨_, Try.runUnderlying24, fun w => by simp [Try.sizeOf23, Try.sizeOf3]⟩⟩
instance : TZ Try.prog 24 [.int .i64 0, .slice none 0 0] := ⟨⟨_, Try.zeroValue24, rfl, by simp [Value.oneCell']⟩⟩
instance : TB Try.prog 25 true 2 := ⟨Try.sizeOf25, Try.isAgg25, fun h => by cases h⟩
instance : TF Try.prog 25 0 0 1 := ⟨⟨_, _, Try.runUnderlying25, rfl, rfl, Try.sizeOf3, by decide⟩⟩
instance : TF Try.prog 25 1 1 1 := ⟨⟨_, _, Try.runUnderlying25, rfl, rfl, Try.sizeOf23, by decide⟩⟩
instance : TP Try.prog 25 [(0, 1), (1, 1)] := ⟨⟨_, Try.runUnderlying25, fun w => by simp [Try.sizeOf23, Try.sizeOf3]⟩⟩
instance : TZ Try.prog 25 [.int .i64 0, .slice none 0 0] := ⟨⟨_, Try.zeroValue25, rfl, by simp [Value.oneCell']⟩⟩
instance : TB Try.prog 26 false 1 := ⟨Try.sizeOf26, Try.isAgg26, fun _ => rfl⟩
instance : TZ Try.prog 26 [.slice none 0 0] := ⟨⟨_, Try.zeroValue26, rfl, by simp [Value.oneCell']⟩⟩
theorem info26 : (Try.prog.info? 3).map (fun i => (i.zero, i.size, i.bytes)) = some (some (.int .i64 0), 1, 8) := by kernel_rfl
instance : TS Try.prog 26 3 1 8 := ⟨Try.underlying26, by obtain ⟨i, h1, h2, h3, h4⟩ := info_parts info26; exact ⟨i, _, h1, h2, h3, h4, rfl⟩, by decide, by decide⟩
instance : TB Try.prog 28 false 1 := ⟨Try.sizeOf28, Try.isAgg28, fun _ => rfl⟩
instance : TZ Try.prog 28 [.nilFunc] := ⟨⟨_, Try.zeroValue28, rfl, by simp [Value.oneCell']⟩⟩
instance : TB Try.prog 29 false 1 := ⟨Try.sizeOf29, Try.isAgg29, fun _ => rfl⟩
instance : TZ Try.prog 29 [.nilFunc] := ⟨⟨_, Try.zeroValue29, rfl, by simp [Value.oneCell']⟩⟩
instance : TB Try.prog 30 false 1 := ⟨Try.sizeOf30, Try.isAgg30, fun _ => rfl⟩
instance : TZ Try.prog 30 [.nilFunc] := ⟨⟨_, Try.zeroValue30, rfl, by simp [Value.oneCell']⟩⟩
instance : TB Try.prog 31 false 1 := ⟨Try.sizeOf31, Try.isAgg31, fun _ => rfl⟩
instance : TZ Try.prog 31 [.nilFunc] := ⟨⟨_, Try.zeroValue31, rfl, by simp [Value.oneCell']⟩⟩
instance : TB Try.prog 32 false 1 := ⟨Try.sizeOf32, Try.isAgg32, fun _ => rfl⟩
instance : TZ Try.prog 32 [.nilFunc] := ⟨⟨_, Try.zeroValue32, rfl, by simp [Value.oneCell']⟩⟩
instance : TB Try.prog 33 false 1 := ⟨Try.sizeOf33, Try.isAgg33, fun _ => rfl⟩
instance : TZ Try.prog 33 [.nilFunc] := ⟨⟨_, Try.zeroValue33, rfl, by simp [Value.oneCell']⟩⟩
instance : TB Try.prog 34 false 1 := ⟨Try.sizeOf34, Try.isAgg34, fun _ => rfl⟩
instance : TZ Try.prog 34 [.slice none 0 0] := ⟨⟨_, Try.zeroValue34, rfl, by simp [Value.oneCell']⟩⟩
theorem info34 : (Try.prog.info? 76).map (fun i => (i.zero, i.size, i.bytes)) = some (some (.agg #[.int .i64 0, .int .i64 0, .int .i64 0]), 3, 24) := by kernel_rfl
instance : TS Try.prog 34 76 3 24 := ⟨Try.underlying34, by obtain ⟨i, h1, h2, h3, h4⟩ := info_parts info34; exact ⟨i, _, h1, h2, h3, h4, rfl⟩, by decide, by decide⟩
instance : TB Try.prog 35 true 2 := ⟨Try.sizeOf35, Try.isAgg35, fun h => by cases h⟩
instance : TF Try.prog 35 0 0 1 := ⟨⟨_, _, Try.runUnderlying35, rfl, rfl, Try.sizeOf3, by decide⟩⟩
instance : TF Try.prog 35 1 1 1 := ⟨⟨_, _, Try.runUnderlying35, rfl, rfl, Try.sizeOf34, by decide⟩⟩
instance : TP Try.prog 35 [(0, 1), (1, 1)] := ⟨⟨_, Try.runUnderlying35, fun w => by simp [Try.sizeOf3, Try.sizeOf34]⟩⟩
instance : TZ Try.prog 35 [.int .i64 0, .slice none 0 0] := ⟨⟨_, Try.zeroValue35, rfl, by simp [Value.oneCell']⟩⟩
instance : TB Try.prog 36 true 2 := ⟨Try.sizeOf36, Try.isAgg36, fun h => by cases h⟩
instance : TF Try.prog 36 0 0 1 := ⟨⟨_, _, Try.runUnderlying36, rfl, rfl, Try.sizeOf3, by decide⟩⟩
instance : TF Try.prog 36 1 1 1 := ⟨⟨_, _, Try.runUnderlying36, rfl, rfl, Try.sizeOf34, by decide⟩⟩
instance : TP Try.prog 36 [(0, 1), (1, 1)] := ⟨⟨_, Try.runUnderlying36, fun w => by simp [Try.sizeOf3, Try.sizeOf34]⟩⟩
instance : TZ Try.prog 36 [.int .i64 0, .slice none 0 0] := ⟨⟨_, Try.zeroValue36, rfl, by simp [Value.oneCell']⟩⟩
instance : TB Try.prog 37 false 1 := ⟨Try.sizeOf37, Try.isAgg37, fun _ => rfl⟩
instance : TZ Try.prog 37 [.nilFunc] := ⟨⟨_, Try.zeroValue37, rfl, by simp [Value.oneCell']⟩⟩
instance : TB Try.prog 39 false 1 := ⟨Try.sizeOf39, Try.isAgg39, fun _ => rfl⟩
instance : TZ Try.prog 39 [.nilFunc] := ⟨⟨_, Try.zeroValue39, rfl, by simp [Value.oneCell']⟩⟩
instance : TB Try.prog 40 false 1 := ⟨Try.sizeOf40, Try.isAgg40, fun _ => rfl⟩
instance : TZ Try.prog 40 [.nilFunc] := ⟨⟨_, Try.zeroValue40, rfl, by simp [Value.oneCell']⟩⟩
instance : TB Try.prog 41 false 1 := ⟨Try.sizeOf41, Try.isAgg41, fun _ => rfl⟩
instance : TZ Try.prog 41 [.nilFunc] := ⟨⟨_, Try.zeroValue41, rfl, by simp [Value.oneCell']⟩⟩
instance : TB Try.prog 42 false 1 := ⟨Try.sizeOf42, Try.isAgg42, fun _ => rfl⟩
instance : TZ Try.prog 42 [.nilFunc] := ⟨⟨_, Try.zeroValue42, rfl, by simp [Value.oneCell']⟩⟩
instance : TB Try.prog 43 false 1 := ⟨Try.sizeOf43, Try.isAgg43, fun _ => rfl⟩
instance : TZ Try.prog 43 [.nilFunc] := ⟨⟨_, Try.zeroValue43, rfl, by simp [Value.oneCell']⟩⟩
instance : TB Try.prog 44 false 1 := ⟨Try.sizeOf44, Try.isAgg44, fun _ => rfl⟩
instance : TZ Try.prog 44 [.nilFunc] := ⟨⟨_, Try.zeroValue44, rfl, by simp [Value.oneCell']⟩⟩
instance : TB Try.prog 45 false 1 := ⟨Try.sizeOf45, Try.isAgg45, fun _ => rfl⟩
instance : TZ Try.prog 45 [.nilFunc] := ⟨⟨_, Try.zeroValue45, rfl, by simp [Value.oneCell']⟩⟩
instance : TB Try.prog 46 false 1 := ⟨Try.sizeOf46, Try.isAgg46, fun _ => rfl⟩
instance : TZ Try.prog 46 [.nilFunc] := ⟨⟨_, Try.zeroValue46, rfl, by simp [Value.oneCell']⟩⟩
instance : TB Try.prog 48 false 1 := ⟨Try.sizeOf48, Try.isAgg48, fun _ => rfl⟩
instance : TZ Try.prog 48 [.nilFunc] := ⟨⟨_, Try.zeroValue48, rfl, by simp [Value.oneCell']⟩⟩
instance : TB Try.prog 49 false 1 := ⟨Try.sizeOf49, Try.isAgg49, fun _ => rfl⟩
instance : TZ Try.prog 49 [.nilFunc] := ⟨⟨_, Try.zeroValue49, rfl, by simp [Value.oneCell']⟩⟩
instance : TB Try.prog 50 false 1 := ⟨Try.sizeOf50, Try.isAgg50, fun _ => rfl⟩
instance : TZ Try.prog 50 [.pointer none] := ⟨⟨_, Try.zeroValue50, rfl, by simp [Value.oneCell']⟩⟩
instance : TB Try.prog 51 false 1 := ⟨Try.sizeOf51, Try.isAgg51, fun _ => rfl⟩
instance : TZ Try.prog 51 [.nilFunc] := ⟨⟨_, Try.zeroValue51, rfl, by simp [Value.oneCell']⟩⟩
instance : TB Try.prog 52 false 1 := ⟨Try.sizeOf52, Try.isAgg52, fun _ => rfl⟩
instance : TZ Try.prog 52 [.nilFunc] := ⟨⟨_, Try.zeroValue52, rfl, by simp [Value.oneCell']⟩⟩
instance : TB Try.prog 53 false 1 := ⟨Try.sizeOf53, Try.isAgg53, fun _ => rfl⟩
instance : TZ Try.prog 53 [.nilFunc] := ⟨⟨_, Try.zeroValue53, rfl, by simp [Value.oneCell']⟩⟩
instance : TB Try.prog 54 false 1 := ⟨Try.sizeOf54, Try.isAgg54, fun _ => rfl⟩
instance : TZ Try.prog 54 [.nilFunc] := ⟨⟨_, Try.zeroValue54, rfl, by simp [Value.oneCell']⟩⟩
instance : TB Try.prog 55 false 1 := ⟨Try.sizeOf55, Try.isAgg55, fun _ => rfl⟩
instance : TZ Try.prog 55 [.nilFunc] := ⟨⟨_, Try.zeroValue55, rfl, by simp [Value.oneCell']⟩⟩
instance : TB Try.prog 56 false 1 := ⟨Try.sizeOf56, Try.isAgg56, fun _ => rfl⟩
instance : TZ Try.prog 56 [.nilFunc] := ⟨⟨_, Try.zeroValue56, rfl, by simp [Value.oneCell']⟩⟩
instance : TB Try.prog 57 false 1 := ⟨Try.sizeOf57, Try.isAgg57, fun _ => rfl⟩
instance : TZ Try.prog 57 [.nilFunc] := ⟨⟨_, Try.zeroValue57, rfl, by simp [Value.oneCell']⟩⟩
instance : TB Try.prog 58 false 1 := ⟨Try.sizeOf58, Try.isAgg58, fun _ => rfl⟩
instance : TZ Try.prog 58 [.nilFunc] := ⟨⟨_, Try.zeroValue58, rfl, by simp [Value.oneCell']⟩⟩
instance : TB Try.prog 59 false 1 := ⟨Try.sizeOf59, Try.isAgg59, fun _ => rfl⟩
instance : TZ Try.prog 59 [.nilFunc] := ⟨⟨_, Try.zeroValue59, rfl, by simp [Value.oneCell']⟩⟩
instance : TB Try.prog 60 false 1 := ⟨Try.sizeOf60, Try.isAgg60, fun _ => rfl⟩
instance : TZ Try.prog 60 [.nilFunc] := ⟨⟨_, Try.zeroValue60, rfl, by simp [Value.oneCell']⟩⟩
instance : TB Try.prog 61 false 1 := ⟨Try.sizeOf61, Try.isAgg61, fun _ => rfl⟩
instance : TZ Try.prog 61 [.nilFunc] := ⟨⟨_, Try.zeroValue61, rfl, by simp [Value.oneCell']⟩⟩
instance : TB Try.prog 62 false 1 := ⟨Try.sizeOf62, Try.isAgg62, fun _ => rfl⟩
instance : TZ Try.prog 62 [.nilFunc] := ⟨⟨_, Try.zeroValue62, rfl, by simp [Value.oneCell']⟩⟩
instance : TB Try.prog 63 false 1 := ⟨Try.sizeOf63, Try.isAgg63, fun _ => rfl⟩
instance : TZ Try.prog 63 [.nilFunc] := ⟨⟨_, Try.zeroValue63, rfl, by simp [Value.oneCell']⟩⟩
instance : TB Try.prog 65 false 1 := ⟨Try.sizeOf65, Try.isAgg65, fun _ => rfl⟩
instance : TZ Try.prog 65 [.nilFunc] := ⟨⟨_, Try.zeroValue65, rfl, by simp [Value.oneCell']⟩⟩
instance : TB Try.prog 66 true 2 := ⟨Try.sizeOf66, Try.isAgg66, fun h => by cases h⟩
instance : TF Try.prog 66 0 0 1 := ⟨⟨_, _, Try.runUnderlying66, rfl, rfl, Try.sizeOf22, by decide⟩⟩
instance : TF Try.prog 66 1 1 1 := ⟨⟨_, _, Try.runUnderlying66, rfl, rfl, Try.sizeOf3, by decide⟩⟩
instance : TP Try.prog 66 [(0, 1), (1, 1)] := ⟨⟨_, Try.runUnderlying66, fun w => by simp [Try.sizeOf22, Try.sizeOf3]⟩⟩
instance : TZ Try.prog 66 [.slice none 0 0, .int .i64 0] := ⟨⟨_, Try.zeroValue66, rfl, by simp [Value.oneCell']⟩⟩
instance : TB Try.prog 67 true 2 := ⟨Try.sizeOf67, Try.isAgg67, fun h => by cases h⟩
instance : TF Try.prog 67 0 0 1 := ⟨⟨_, _, Try.runUnderlying67, rfl, rfl, Try.sizeOf22, by decide⟩⟩
instance : TF Try.prog 67 1 1 1 := ⟨⟨_, _, Try.runUnderlying67, rfl, rfl, Try.sizeOf3, by decide⟩⟩
instance : TP Try.prog 67 [(0, 1), (1, 1)] := ⟨⟨_, Try.runUnderlying67, fun w => by simp [Try.sizeOf22, Try.sizeOf3]⟩⟩
instance : TZ Try.prog 67 [.slice none 0 0, .int .i64 0] := ⟨⟨_, Try.zeroValue67, rfl, by simp [Value.oneCell']⟩⟩
instance : TB Try.prog 68 false 1 := ⟨Try.sizeOf68, Try.isAgg68, fun _ => rfl⟩
instance : TZ Try.prog 68 [.nilFunc] := ⟨⟨_, Try.zeroValue68, rfl, by simp [Value.oneCell']⟩⟩
instance : TB Try.prog 69 true 3 := ⟨Try.sizeOf69, Try.isAgg69, fun h => by cases h⟩
instance : TF Try.prog 69 0 0 1 := ⟨⟨_, _, Try.runUnderlying69, rfl, rfl, Try.sizeOf3, by decide⟩⟩
instance : TF Try.prog 69 1 1 1 := ⟨⟨_, _, Try.runUnderlying69, rfl, rfl, Try.sizeOf3, by decide⟩⟩
instance : TF Try.prog 69 2 2 1 := ⟨⟨_, _, Try.runUnderlying69, rfl, rfl, Try.sizeOf3, by decide⟩⟩
instance : TP Try.prog 69 [(0, 1), (1, 1), (2, 1)] := ⟨⟨_, Try.runUnderlying69, fun w => by simp [Try.sizeOf3]⟩⟩
instance : TZ Try.prog 69 [.int .i64 0, .int .i64 0, .int .i64 0] := ⟨⟨_, Try.zeroValue69, rfl, by simp [Value.oneCell']⟩⟩
instance : TB Try.prog 70 true 3 := ⟨Try.sizeOf70, Try.isAgg70, fun h => by cases h⟩
instance : TF Try.prog 70 0 0 1 := ⟨⟨_, _, Try.runUnderlying70, rfl, rfl, Try.sizeOf3, by decide⟩⟩
instance : TF Try.prog 70 1 1 1 := ⟨⟨_, _, Try.runUnderlying70, rfl, rfl, Try.sizeOf3, by decide⟩⟩
instance : TF Try.prog 70 2 2 1 := ⟨⟨_, _, Try.runUnderlying70, rfl, rfl, Try.sizeOf3, by decide⟩⟩
instance : TP Try.prog 70 [(0, 1), (1, 1), (2, 1)] := ⟨⟨_, Try.runUnderlying70, fun w => by simp [Try.sizeOf3]⟩⟩
instance : TZ Try.prog 70 [.int .i64 0, .int .i64 0, .int .i64 0] := ⟨⟨_, Try.zeroValue70, rfl, by simp [Value.oneCell']⟩⟩
instance : TB Try.prog 71 false 1 := ⟨Try.sizeOf71, Try.isAgg71, fun _ => rfl⟩
instance : TZ Try.prog 71 [.nilFunc] := ⟨⟨_, Try.zeroValue71, rfl, by simp [Value.oneCell']⟩⟩
instance : TB Try.prog 72 false 1 := ⟨Try.sizeOf72, Try.isAgg72, fun _ => rfl⟩
instance : TZ Try.prog 72 [.nilFunc] := ⟨⟨_, Try.zeroValue72, rfl, by simp [Value.oneCell']⟩⟩
instance : TB Try.prog 73 false 1 := ⟨Try.sizeOf73, Try.isAgg73, fun _ => rfl⟩
instance : TZ Try.prog 73 [.nilFunc] := ⟨⟨_, Try.zeroValue73, rfl, by simp [Value.oneCell']⟩⟩
instance : TB Try.prog 74 false 1 := ⟨Try.sizeOf74, Try.isAgg74, fun _ => rfl⟩
instance : TZ Try.prog 74 [.nilFunc] := ⟨⟨_, Try.zeroValue74, rfl, by simp [Value.oneCell']⟩⟩
instance : TB Try.prog 75 false 1 := ⟨Try.sizeOf75, Try.isAgg75, fun _ => rfl⟩
instance : TZ Try.prog 75 [.nilFunc] := ⟨⟨_, Try.zeroValue75, rfl, by simp [Value.oneCell']⟩⟩
instance : TB Try.prog 76 true 3 := ⟨Try.sizeOf76, Try.isAgg76, fun h => by cases h⟩
instance : TF Try.prog 76 0 0 1 := ⟨⟨_, _, Try.runUnderlying76, rfl, rfl, Try.sizeOf3, by decide⟩⟩
instance : TF Try.prog 76 1 1 1 := ⟨⟨_, _, Try.runUnderlying76, rfl, rfl, Try.sizeOf3, by decide⟩⟩
instance : TF Try.prog 76 2 2 1 := ⟨⟨_, _, Try.runUnderlying76, rfl, rfl, Try.sizeOf3, by decide⟩⟩
instance : TP Try.prog 76 [(0, 1), (1, 1), (2, 1)] := ⟨⟨_, Try.runUnderlying76, fun w => by simp [Try.sizeOf3]⟩⟩
instance : TZ Try.prog 76 [.int .i64 0, .int .i64 0, .int .i64 0] := ⟨⟨_, Try.zeroValue76, rfl, by simp [Value.oneCell']⟩⟩
instance : TB Try.prog 77 false 1 := ⟨Try.sizeOf77, Try.isAgg77, fun _ => rfl⟩
instance : TZ Try.prog 77 [.nilFunc] := ⟨⟨_, Try.zeroValue77, rfl, by simp [Value.oneCell']⟩⟩
instance : TB Try.prog 78 false 1 := ⟨Try.sizeOf78, Try.isAgg78, fun _ => rfl⟩
instance : TZ Try.prog 78 [.int .u64 0] := ⟨⟨_, Try.zeroValue78, rfl, by simp [Value.oneCell']⟩⟩
instance : TB Try.prog 80 false 1 := ⟨Try.sizeOf80, Try.isAgg80, fun _ => rfl⟩
instance : TZ Try.prog 80 [.nilFunc] := ⟨⟨_, Try.zeroValue80, rfl, by simp [Value.oneCell']⟩⟩
instance : TB Try.prog 81 false 1 := ⟨Try.sizeOf81, Try.isAgg81, fun _ => rfl⟩
instance : TZ Try.prog 81 [.int .u32 0] := ⟨⟨_, Try.zeroValue81, rfl, by simp [Value.oneCell']⟩⟩
instance : TB Try.prog 83 false 1 := ⟨Try.sizeOf83, Try.isAgg83, fun _ => rfl⟩
instance : TZ Try.prog 83 [.nilFunc] := ⟨⟨_, Try.zeroValue83, rfl, by simp [Value.oneCell']⟩⟩
instance : TB Try.prog 84 false 1 := ⟨Try.sizeOf84, Try.isAgg84, fun _ => rfl⟩
instance : TZ Try.prog 84 [.int .u64 0] := ⟨⟨_, Try.zeroValue84, rfl, by simp [Value.oneCell']⟩⟩
instance : TB Try.prog 86 false 1 := ⟨Try.sizeOf86, Try.isAgg86, fun _ => rfl⟩
instance : TZ Try.prog 86 [.nilFunc] := ⟨⟨_, Try.zeroValue86, rfl, by simp [Value.oneCell']⟩⟩
instance : TB Try.prog 87 false 1 := ⟨Try.sizeOf87, Try.isAgg87, fun _ => rfl⟩
instance : TZ Try.prog 87 [.nilFunc] := ⟨⟨_, Try.zeroValue87, rfl, by simp [Value.oneCell']⟩⟩
instance : TB Try.prog 88 true 4 := ⟨Try.sizeOf88, Try.isAgg88, fun h => by cases h⟩
instance : TF Try.prog 88 0 0 1 := ⟨⟨_, _, Try.runUnderlying88, rfl, rfl, Try.sizeOf17, by decide⟩⟩
instance : TF Try.prog 88 1 1 1 := ⟨⟨_, _, Try.runUnderlying88, rfl, rfl, Try.sizeOf17, by decide⟩⟩
instance : TF Try.prog 88 2 2 1 := ⟨⟨_, _, Try.runUnderlying88, rfl, rfl, Try.sizeOf17, by decide⟩⟩
instance : TF Try.prog 88 3 3 1 := ⟨⟨_, _, Try.runUnderlying88, rfl, rfl, Try.sizeOf9, by decide⟩⟩
instance : TP Try.prog 88 [(0, 1), (1, 1), (2, 1), (3, 1)] := ⟨⟨_, Try.runUnderlying88, fun w => by simp [Try.sizeOf17, Try.sizeOf9]⟩⟩
instance : TZ Try.prog 88 [.pointer none, .pointer none, .pointer none, .string ⟨#[]⟩] := ⟨⟨_, Try.zeroValue88, rfl, by simp [Value.oneCell']⟩⟩
instance : TB Try.prog 89 true 4 := ⟨Try.sizeOf89, Try.isAgg89, fun h => by cases h⟩
instance : TF Try.prog 89 0 0 1 := ⟨⟨_, _, Try.runUnderlying89, rfl, rfl, Try.sizeOf17, by decide⟩⟩
instance : TF Try.prog 89 1 1 1 := ⟨⟨_, _, Try.runUnderlying89, rfl, rfl, Try.sizeOf17, by decide⟩⟩
instance : TF Try.prog 89 2 2 1 := ⟨⟨_, _, Try.runUnderlying89, rfl, rfl, Try.sizeOf17, by decide⟩⟩
instance : TF Try.prog 89 3 3 1 := ⟨⟨_, _, Try.runUnderlying89, rfl, rfl, Try.sizeOf9, by decide⟩⟩
instance : TP Try.prog 89 [(0, 1), (1, 1), (2, 1), (3, 1)] := ⟨⟨_, Try.runUnderlying89, fun w => by simp [Try.sizeOf17, Try.sizeOf9]⟩⟩
instance : TZ Try.prog 89 [.pointer none, .pointer none, .pointer none, .string ⟨#[]⟩] := ⟨⟨_, Try.zeroValue89, rfl, by simp [Value.oneCell']⟩⟩
instance : TB Try.prog 93 false 1 := ⟨Try.sizeOf93, Try.isAgg93, fun _ => rfl⟩
instance : TZ Try.prog 93 [.nilFunc] := ⟨⟨_, Try.zeroValue93, rfl, by simp [Value.oneCell']⟩⟩
instance : TB Try.prog 94 false 1 := ⟨Try.sizeOf94, Try.isAgg94, fun _ => rfl⟩
instance : TZ Try.prog 94 [.int .u8 0] := ⟨⟨_, Try.zeroValue94, rfl, by simp [Value.oneCell']⟩⟩
instance : TB Try.prog 95 false 1 := ⟨Try.sizeOf95, Try.isAgg95, fun _ => rfl⟩
instance : TZ Try.prog 95 [.int .u8 0] := ⟨⟨_, Try.zeroValue95, rfl, by simp [Value.oneCell']⟩⟩
instance : TB Try.prog 96 false 1 := ⟨Try.sizeOf96, Try.isAgg96, fun _ => rfl⟩
instance : TZ Try.prog 96 [.nilFunc] := ⟨⟨_, Try.zeroValue96, rfl, by simp [Value.oneCell']⟩⟩
instance : TB Try.prog 97 false 1 := ⟨Try.sizeOf97, Try.isAgg97, fun _ => rfl⟩
instance : TZ Try.prog 97 [.pointer none] := ⟨⟨_, Try.zeroValue97, rfl, by simp [Value.oneCell']⟩⟩
instance : TB Try.prog 98 false 1 := ⟨Try.sizeOf98, Try.isAgg98, fun _ => rfl⟩
instance : TZ Try.prog 98 [.int .i32 0] := ⟨⟨_, Try.zeroValue98, rfl, by simp [Value.oneCell']⟩⟩
instance : TB Try.prog 99 false 1 := ⟨Try.sizeOf99, Try.isAgg99, fun _ => rfl⟩
instance : TZ Try.prog 99 [.int .i32 0] := ⟨⟨_, Try.zeroValue99, rfl, by simp [Value.oneCell']⟩⟩
instance : TB Try.prog 100 true 11 := ⟨Try.sizeOf100, Try.isAgg100, fun h => by cases h⟩
instance : TF Try.prog 100 0 0 1 := ⟨⟨_, _, Try.runUnderlying100, rfl, rfl, Try.sizeOf12, by decide⟩⟩
instance : TF Try.prog 100 1 1 1 := ⟨⟨_, _, Try.runUnderlying100, rfl, rfl, Try.sizeOf12, by decide⟩⟩
instance : TF Try.prog 100 2 2 1 := ⟨⟨_, _, Try.runUnderlying100, rfl, rfl, Try.sizeOf81, by decide⟩⟩
instance : TF Try.prog 100 3 3 1 := ⟨⟨_, _, Try.runUnderlying100, rfl, rfl, Try.sizeOf94, by decide⟩⟩
instance : TF Try.prog 100 4 4 1 := ⟨⟨_, _, Try.runUnderlying100, rfl, rfl, Try.sizeOf5, by decide⟩⟩
instance : TF Try.prog 100 5 5 1 := ⟨⟨_, _, Try.runUnderlying100, rfl, rfl, Try.sizeOf5, by decide⟩⟩
instance : TF Try.prog 100 6 6 1 := ⟨⟨_, _, Try.runUnderlying100, rfl, rfl, Try.sizeOf95, by decide⟩⟩
instance : TF Try.prog 100 7 7 1 := ⟨⟨_, _, Try.runUnderlying100, rfl, rfl, Try.sizeOf96, by decide⟩⟩
instance : TF Try.prog 100 8 8 1 := ⟨⟨_, _, Try.runUnderlying100, rfl, rfl, Try.sizeOf97, by decide⟩⟩
instance : TF Try.prog 100 9 9 1 := ⟨⟨_, _, Try.runUnderlying100, rfl, rfl, Try.sizeOf98, by decide⟩⟩
instance : TF Try.prog 100 10 10 1 := ⟨⟨_, _, Try.runUnderlying100, rfl, rfl, Try.sizeOf99, by decide⟩⟩
instance : TP Try.prog 100 [(0, 1), (1, 1), (2, 1), (3, 1), (4, 1), (5, 1), (6, 1), (7, 1), (8, 1), (9, 1), (10, 1)] := ⟨⟨_, Try.runUnderlying100, fun w => by simp [Try.sizeOf12, Try.sizeOf5, Try.sizeOf81, Try.sizeOf94, Try.sizeOf95, Try.sizeOf96, Try.sizeOf97, Try.sizeOf98, Try.sizeOf99]⟩⟩
instance : TZ Try.prog 100 [.int .u64 0, .int .u64 0, .int .u32 0, .int .u8 0, .int .u8 0, .int .u8 0, .int .u8 0, .nilFunc, .pointer none, .int .i32 0, .int .i32 0] := ⟨⟨_, Try.zeroValue100, rfl, by simp [Value.oneCell']⟩⟩
instance : TB Try.prog 101 true 11 := ⟨Try.sizeOf101, Try.isAgg101, fun h => by cases h⟩
instance : TF Try.prog 101 0 0 1 := ⟨⟨_, _, Try.runUnderlying101, rfl, rfl, Try.sizeOf12, by decide⟩⟩
instance : TF Try.prog 101 1 1 1 := ⟨⟨_, _, Try.runUnderlying101, rfl, rfl, Try.sizeOf12, by decide⟩⟩
instance : TF Try.prog 101 2 2 1 := ⟨⟨_, _, Try.runUnderlying101, rfl, rfl, Try.sizeOf81, by decide⟩⟩
instance : TF Try.prog 101 3 3 1 := ⟨⟨_, _, Try.runUnderlying101, rfl, rfl, Try.sizeOf94, by decide⟩⟩
instance : TF Try.prog 101 4 4 1 := ⟨⟨_, _, Try.runUnderlying101, rfl, rfl, Try.sizeOf5, by decide⟩⟩
instance : TF Try.prog 101 5 5 1 := ⟨⟨_, _, Try.runUnderlying101, rfl, rfl, Try.sizeOf5, by decide⟩⟩
instance : TF Try.prog 101 6 6 1 := ⟨⟨_, _, Try.runUnderlying101, rfl, rfl, Try.sizeOf95, by decide⟩⟩
instance : TF Try.prog 101 7 7 1 := ⟨⟨_, _, Try.runUnderlying101, rfl, rfl, Try.sizeOf96, by decide⟩⟩
instance : TF Try.prog 101 8 8 1 := ⟨⟨_, _, Try.runUnderlying101, rfl, rfl, Try.sizeOf97, by decide⟩⟩
instance : TF Try.prog 101 9 9 1 := ⟨⟨_, _, Try.runUnderlying101, rfl, rfl, Try.sizeOf98, by decide⟩⟩
instance : TF Try.prog 101 10 10 1 := ⟨⟨_, _, Try.runUnderlying101, rfl, rfl, Try.sizeOf99, by decide⟩⟩
instance : TP Try.prog 101 [(0, 1), (1, 1), (2, 1), (3, 1), (4, 1), (5, 1), (6, 1), (7, 1), (8, 1), (9, 1), (10, 1)] := ⟨⟨_, Try.runUnderlying101, fun w => by simp [Try.sizeOf12, Try.sizeOf5, Try.sizeOf81, Try.sizeOf94, Try.sizeOf95, Try.sizeOf96, Try.sizeOf97, Try.sizeOf98, Try.sizeOf99]⟩⟩
instance : TZ Try.prog 101 [.int .u64 0, .int .u64 0, .int .u32 0, .int .u8 0, .int .u8 0, .int .u8 0, .int .u8 0, .nilFunc, .pointer none, .int .i32 0, .int .i32 0] := ⟨⟨_, Try.zeroValue101, rfl, by simp [Value.oneCell']⟩⟩
instance : TB Try.prog 102 false 1 := ⟨Try.sizeOf102, Try.isAgg102, fun _ => rfl⟩
instance : TZ Try.prog 102 [.nilFunc] := ⟨⟨_, Try.zeroValue102, rfl, by simp [Value.oneCell']⟩⟩
instance : TC Try.prog 2 := ⟨Try.call2⟩
instance : TC Try.prog 3 := ⟨Try.call3⟩
instance : TC Try.prog 4 := ⟨Try.call4⟩
instance : TC Try.prog 5 := ⟨Try.call5⟩
instance : TC Try.prog 6 := ⟨Try.call6⟩
instance : TC Try.prog 7 := ⟨Try.call7⟩
instance : TC Try.prog 8 := ⟨Try.call8⟩
instance : TC Try.prog 9 := ⟨Try.call9⟩
instance : TC Try.prog 10 := ⟨Try.call10⟩
instance : TC Try.prog 11 := ⟨Try.call11⟩
instance : TC Try.prog 12 := ⟨Try.call12⟩
instance : TC Try.prog 13 := ⟨Try.call13⟩
instance : TC Try.prog 14 := ⟨Try.call14⟩
instance : TC Try.prog 15 := ⟨Try.call15⟩
instance : TC Try.prog 16 := ⟨Try.call16⟩
instance : TC Try.prog 17 := ⟨Try.call17⟩
instance : TC Try.prog 18 := ⟨Try.call18⟩
instance : TC Try.prog 19 := ⟨Try.call19⟩
instance : TC Try.prog 20 := ⟨Try.call20⟩
instance : TC Try.prog 21 := ⟨Try.call21⟩
instance : TC Try.prog 22 := ⟨Try.call22⟩
instance : TC Try.prog 23 := ⟨Try.call23⟩
instance : TC Try.prog 24 := ⟨Try.call24⟩
instance : TC Try.prog 25 := ⟨Try.call25⟩
instance : TC Try.prog 26 := ⟨Try.call26⟩
instance : TC Try.prog 27 := ⟨Try.call27⟩
instance : TC Try.prog 28 := ⟨Try.call28⟩
instance : TC Try.prog 29 := ⟨Try.call29⟩
instance : TC Try.prog 30 := ⟨Try.call30⟩
instance : TC Try.prog 31 := ⟨Try.call31⟩
instance : TC Try.prog 32 := ⟨Try.call32⟩
instance : TC Try.prog 33 := ⟨Try.call33⟩
instance : TC Try.prog 34 := ⟨Try.call34⟩
instance : TC Try.prog 35 := ⟨Try.call35⟩
instance : TC Try.prog 36 := ⟨Try.call36⟩
instance : TC Try.prog 37 := ⟨Try.call37⟩
instance : TC Try.prog 38 := ⟨Try.call38⟩
instance : TC Try.prog 39 := ⟨Try.call39⟩
instance : TC Try.prog 40 := ⟨Try.call40⟩
instance : TC Try.prog 41 := ⟨Try.call41⟩
instance : TC Try.prog 42 := ⟨Try.call42⟩
instance : TC Try.prog 43 := ⟨Try.call43⟩
instance : TC Try.prog 44 := ⟨Try.call44⟩
instance : TC Try.prog 45 := ⟨Try.call45⟩
instance : TC Try.prog 46 := ⟨Try.call46⟩
instance : TC Try.prog 47 := ⟨Try.call47⟩
instance : TC Try.prog 48 := ⟨Try.call48⟩
instance : TC Try.prog 49 := ⟨Try.call49⟩
instance : TC Try.prog 50 := ⟨Try.call50⟩
instance : TC Try.prog 51 := ⟨Try.call51⟩
instance : TC Try.prog 52 := ⟨Try.call52⟩
instance : TC Try.prog 53 := ⟨Try.call53⟩
instance : TC Try.prog 54 := ⟨Try.call54⟩
instance : TC Try.prog 55 := ⟨Try.call55⟩
instance : TC Try.prog 56 := ⟨Try.call56⟩
instance : TC Try.prog 57 := ⟨Try.call57⟩
instance : TC Try.prog 58 := ⟨Try.call58⟩
end Go.Proofs.Ytkeihpihphefgaa
