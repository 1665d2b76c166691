/-
  The functions that can be entered.
-/
import Derived.Test.YtoeaamohchpjdaaEng6
import Derived.Test.YtoeaamohchpjdaaProg
namespace Go.Proofs.Ytoeaamohchpjdaa
open Go Go.RowKit
set_option maxRecDepth 100000
theorem ent2 : Enters Try.prog 2 := ⟨_, Try.func2, rfl, by decide⟩
theorem ent3 : Enters Try.prog 3 := ⟨_, Try.func3, rfl, by decide⟩
theorem ent4 : Enters Try.prog 4 := ⟨_, Try.func4, rfl, by decide⟩
theorem ent5 : Enters Try.prog 5 := ⟨_, Try.func5, rfl, by decide⟩
theorem ent6 : Enters Try.prog 6 := ⟨_, Try.func6, rfl, by decide⟩
theorem ent7 : Enters Try.prog 7 := ⟨_, Try.func7, rfl, by decide⟩
theorem ent8 : Enters Try.prog 8 := ⟨_, Try.func8, rfl, by decide⟩
theorem ent9 : Enters Try.prog 9 := ⟨_, Try.func9, rfl, by decide⟩
theorem ent10 : Enters Try.prog 10 := ⟨_, Try.func10, rfl, by decide⟩
theorem ent11 : Enters Try.prog 11 := ⟨_, Try.func11, rfl, by decide⟩
theorem ent12 : Enters Try.prog 12 := ⟨_, Try.func12, rfl, by decide⟩
theorem ent13 : Enters Try.prog 13 := ⟨_, Try.func13, rfl, by decide⟩
theorem ent14 : Enters Try.prog 14 := ⟨_, Try.func14, rfl, by decide⟩
theorem ent15 : Enters Try.prog 15 := ⟨_, Try.func15, rfl, by decide⟩
theorem ent16 : Enters Try.prog 16 := ⟨_, Try.func16, rfl, by decide⟩
theorem ent17 : Enters Try.prog 17 := ⟨_, Try.func17, rfl, by decide⟩
theorem ent18 : Enters Try.prog 18 := ⟨_, Try.func18, rfl, by decide⟩
theorem ent19 : Enters Try.prog 19 := ⟨_, Try.func19, rfl, by decide⟩
theorem ent20 : Enters Try.prog 20 := ⟨_, Try.func20, rfl, by decide⟩
theorem ent21 : Enters Try.prog 21 := ⟨_, Try.func21, rfl, by decide⟩
theorem ent22 : Enters Try.prog 22 := ⟨_, Try.func22, rfl, by decide⟩
theorem ent23 : Enters Try.prog 23 := ⟨_, Try.func23, rfl, by decide⟩
theorem ent24 : Enters Try.prog 24 := ⟨_, Try.func24, rfl, by decide⟩
theorem ent25 : Enters Try.prog 25 := ⟨_, Try.func25, rfl, by decide⟩
theorem ent26 : Enters Try.prog 26 := ⟨_, Try.func26, rfl, by decide⟩
theorem ent27 : Enters Try.prog 27 := ⟨_, Try.func27, rfl, by decide⟩
theorem ent28 : Enters Try.prog 28 := ⟨_, Try.func28, rfl, by decide⟩
theorem ent29 : Enters Try.prog 29 := ⟨_, Try.func29, rfl, by decide⟩
theorem ent30 : Enters Try.prog 30 := ⟨_, Try.func30, rfl, by decide⟩
theorem ent31 : Enters Try.prog 31 := ⟨_, Try.func31, rfl, by decide⟩
theorem ent32 : Enters Try.prog 32 := ⟨_, Try.func32, rfl, by decide⟩
theorem ent33 : Enters Try.prog 33 := ⟨_, Try.func33, rfl, by decide⟩
theorem ent34 : Enters Try.prog 34 := ⟨_, Try.func34, rfl, by decide⟩
theorem ent35 : Enters Try.prog 35 := ⟨_, Try.func35, rfl, by decide⟩
theorem ent36 : Enters Try.prog 36 := ⟨_, Try.func36, rfl, by decide⟩
theorem ent37 : Enters Try.prog 37 := ⟨_, Try.func37, rfl, by decide⟩
theorem ent38 : Enters Try.prog 38 := ⟨_, Try.func38, rfl, by decide⟩
theorem ent39 : Enters Try.prog 39 := ⟨_, Try.func39, rfl, by decide⟩
theorem ent40 : Enters Try.prog 40 := ⟨_, Try.func40, rfl, by decide⟩
theorem ent41 : Enters Try.prog 41 := ⟨_, Try.func41, rfl, by decide⟩
theorem ent42 : Enters Try.prog 42 := ⟨_, Try.func42, rfl, by decide⟩
theorem ent43 : Enters Try.prog 43 := ⟨_, Try.func43, rfl, by decide⟩
theorem ent44 : Enters Try.prog 44 := ⟨_, Try.func44, rfl, by decide⟩
theorem ent45 : Enters Try.prog 45 := ⟨_, Try.func45, rfl, by decide⟩
theorem ent46 : Enters Try.prog 46 := ⟨_, Try.func46, rfl, by decide⟩
theorem ent47 : Enters Try.prog 47 := ⟨_, Try.func47, rfl, by decide⟩
theorem ent48 : Enters Try.prog 48 := ⟨_, Try.func48, rfl, by decide⟩
theorem ent49 : Enters Try.prog 49 := ⟨_, Try.func49, rfl, by decide⟩
theorem ent50 : Enters Try.prog 50 := ⟨_, Try.func50, rfl, by decide⟩
theorem ent51 : Enters Try.prog 51 := ⟨_, Try.func51, rfl, by decide⟩
theorem ent52 : Enters Try.prog 52 := ⟨_, Try.func52, rfl, by decide⟩
theorem ent53 : Enters Try.prog 53 := ⟨_, Try.func53, rfl, by decide⟩
theorem ent54 : Enters Try.prog 54 := ⟨_, Try.func54, rfl, by decide⟩
theorem ent55 : Enters Try.prog 55 := ⟨_, Try.func55, rfl, by decide⟩
theorem ent56 : Enters Try.prog 56 := ⟨_, Try.func56, rfl, by decide⟩
theorem ent57 : Enters Try.prog 57 := ⟨_, Try.func57, rfl, by decide⟩
theorem ent58 : Enters Try.prog 58 := ⟨_, Try.func58, rfl, by decide⟩
theorem ent59 : Enters Try.prog 59 := ⟨_, Try.func59, rfl, by decide⟩
theorem ent60 : Enters Try.prog 60 := ⟨_, Try.func60, rfl, by decide⟩
theorem ent61 : Enters Try.prog 61 := ⟨_, Try.func61, rfl, by decide⟩
theorem ent62 : Enters Try.prog 62 := ⟨_, Try.func62, rfl, by decide⟩
theorem ent63 : Enters Try.prog 63 := ⟨_, Try.func63, rfl, by decide⟩
theorem ent64 : Enters Try.prog 64 := ⟨_, Try.func64, rfl, by decide⟩
theorem ent65 : Enters Try.prog 65 := ⟨_, Try.func65, rfl, by decide⟩
theorem ent66 : Enters Try.prog 66 := ⟨_, Try.func66, rfl, by decide⟩
theorem ent67 : Enters Try.prog 67 := ⟨_, Try.func67, rfl, by decide⟩
theorem ent68 : Enters Try.prog 68 := ⟨_, Try.func68, rfl, by decide⟩
theorem ent69 : Enters Try.prog 69 := ⟨_, Try.func69, rfl, by decide⟩
theorem ent70 : Enters Try.prog 70 := ⟨_, Try.func70, rfl, by decide⟩
theorem ent71 : Enters Try.prog 71 := ⟨_, Try.func71, rfl, by decide⟩
theorem ent72 : Enters Try.prog 72 := ⟨_, Try.func72, rfl, by decide⟩
theorem ent73 : Enters Try.prog 73 := ⟨_, Try.func73, rfl, by decide⟩
theorem ent74 : Enters Try.prog 74 := ⟨_, Try.func74, rfl, by decide⟩
theorem ent75 : Enters Try.prog 75 := ⟨_, Try.func75, rfl, by decide⟩
theorem ent76 : Enters Try.prog 76 := ⟨_, Try.func76, rfl, by decide⟩
theorem ent77 : Enters Try.prog 77 := ⟨_, Try.func77, rfl, by decide⟩
theorem ent78 : Enters Try.prog 78 := ⟨_, Try.func78, rfl, by decide⟩
theorem ent79 : Enters Try.prog 79 := ⟨_, Try.func79, rfl, by decide⟩
theorem ent80 : Enters Try.prog 80 := ⟨_, Try.func80, rfl, by decide⟩
theorem ent81 : Enters Try.prog 81 := ⟨_, Try.func81, rfl, by decide⟩
theorem ent82 : Enters Try.prog 82 := ⟨_, Try.func82, rfl, by decide⟩
theorem ent83 : Enters Try.prog 83 := ⟨_, Try.func83, rfl, by decide⟩
theorem ent84 : Enters Try.prog 84 := ⟨_, Try.func84, rfl, by decide⟩
theorem ent85 : Enters Try.prog 85 := ⟨_, Try.func85, rfl, by decide⟩
theorem ent86 : Enters Try.prog 86 := ⟨_, Try.func86, rfl, by decide⟩
theorem ent87 : Enters Try.prog 87 := ⟨_, Try.func87, rfl, by decide⟩
theorem ent88 : Enters Try.prog 88 := ⟨_, Try.func88, rfl, by decide⟩
theorem ent89 : Enters Try.prog 89 := ⟨_, Try.func89, rfl, by decide⟩
theorem ent90 : Enters Try.prog 90 := ⟨_, Try.func90, rfl, by decide⟩
theorem ent91 : Enters Try.prog 91 := ⟨_, Try.func91, rfl, by decide⟩
theorem ent92 : Enters Try.prog 92 := ⟨_, Try.func92, rfl, by decide⟩
theorem ent93 : Enters Try.prog 93 := ⟨_, Try.func93, rfl, by decide⟩
theorem ent94 : Enters Try.prog 94 := ⟨_, Try.func94, rfl, by decide⟩
theorem ent95 : Enters Try.prog 95 := ⟨_, Try.func95, rfl, by decide⟩
theorem ent96 : Enters Try.prog 96 := ⟨_, Try.func96, rfl, by decide⟩
theorem ent97 : Enters Try.prog 97 := ⟨_, Try.func97, rfl, by decide⟩
theorem ent98 : Enters Try.prog 98 := ⟨_, Try.func98, rfl, by decide⟩
theorem ent99 : Enters Try.prog 99 := ⟨_, Try.func99, rfl, by decide⟩
theorem ent100 : Enters Try.prog 100 := ⟨_, Try.func100, rfl, by decide⟩
theorem ent101 : Enters Try.prog 101 := ⟨_, Try.func101, rfl, by decide⟩
theorem ent102 : Enters Try.prog 102 := ⟨_, Try.func102, rfl, by decide⟩
theorem ent103 : Enters Try.prog 103 := ⟨_, Try.func103, rfl, by decide⟩
theorem ent104 : Enters Try.prog 104 := ⟨_, Try.func104, rfl, by decide⟩
theorem ent105 : Enters Try.prog 105 := ⟨_, Try.func105, rfl, by decide⟩
theorem ent106 : Enters Try.prog 106 := ⟨_, Try.func106, rfl, by decide⟩
theorem ent107 : Enters Try.prog 107 := ⟨_, Try.func107, rfl, by decide⟩
theorem ent108 : Enters Try.prog 108 := ⟨_, Try.func108, rfl, by decide⟩
theorem ent109 : Enters Try.prog 109 := ⟨_, Try.func109, rfl, by decide⟩
theorem ent110 : Enters Try.prog 110 := ⟨_, Try.func110, rfl, by decide⟩
theorem ent111 : Enters Try.prog 111 := ⟨_, Try.func111, rfl, by decide⟩
theorem ent112 : Enters Try.prog 112 := ⟨_, Try.func112, rfl, by decide⟩
theorem ent113 : Enters Try.prog 113 := ⟨_, Try.func113, rfl, by decide⟩
theorem ent114 : Enters Try.prog 114 := ⟨_, Try.func114, rfl, by decide⟩
theorem ent115 : Enters Try.prog 115 := ⟨_, Try.func115, rfl, by decide⟩
theorem ent116 : Enters Try.prog 116 := ⟨_, Try.func116, rfl, by decide⟩
theorem ent117 : Enters Try.prog 117 := ⟨_, Try.func117, rfl, by decide⟩
theorem ent118 : Enters Try.prog 118 := ⟨_, Try.func118, rfl, by decide⟩
theorem ent119 : Enters Try.prog 119 := ⟨_, Try.func119, rfl, by decide⟩
theorem ent120 : Enters Try.prog 120 := ⟨_, Try.func120, rfl, by decide⟩
theorem ent121 : Enters Try.prog 121 := ⟨_, Try.func121, rfl, by decide⟩
theorem ent122 : Enters Try.prog 122 := ⟨_, Try.func122, rfl, by decide⟩
theorem ent123 : Enters Try.prog 123 := ⟨_, Try.func123, rfl, by decide⟩
theorem ag3 (w : World) : (isAgg 3).run Try.prog w = .ok false w := by rfl
theorem in3 : (Try.prog.info? 3).isSome = true := by rfl
theorem sz3 : szOf Try.prog 3 = 1 := by rfl
theorem zr3 : ((Try.prog.info? 3).bind (·.zero)).bind cellsL = some [.int .i64 0] := by rfl
theorem ag4 (w : World) : (isAgg 4).run Try.prog w = .ok false w := by rfl
theorem in4 : (Try.prog.info? 4).isSome = true := by rfl
theorem sz4 : szOf Try.prog 4 = 1 := by rfl
theorem zr4 : ((Try.prog.info? 4).bind (·.zero)).bind cellsL = some [.bool false] := by rfl
theorem ag5 (w : World) : (isAgg 5).run Try.prog w = .ok false w := by rfl
theorem in5 : (Try.prog.info? 5).isSome = true := by rfl
theorem sz5 : szOf Try.prog 5 = 1 := by rfl
theorem zr5 : ((Try.prog.info? 5).bind (·.zero)).bind cellsL = some [.int .u8 0] := by rfl
theorem ag9 (w : World) : (isAgg 9).run Try.prog w = .ok false w := by rfl
theorem in9 : (Try.prog.info? 9).isSome = true := by rfl
theorem sz9 : szOf Try.prog 9 = 1 := by rfl
theorem zr9 : ((Try.prog.info? 9).bind (·.zero)).bind cellsL = some [.string ⟨#[]⟩] := by rfl
theorem ag22 (w : World) : (isAgg 22).run Try.prog w = .ok false w := by rfl
theorem in22 : (Try.prog.info? 22).isSome = true := by rfl
theorem sz22 : szOf Try.prog 22 = 1 := by rfl
theorem zr22 : ((Try.prog.info? 22).bind (·.zero)).bind cellsL = some [.slice none 0 0] := by rfl
theorem ag30 (w : World) : (isAgg 30).run Try.prog w = .ok true w := by rfl
theorem in30 : (Try.prog.info? 30).isSome = true := by rfl
theorem sz30 : szOf Try.prog 30 = 5 := by rfl
theorem zr30 : ((Try.prog.info? 30).bind (·.zero)).bind cellsL = some [.int .i64 0, .int .i64 0, .int .i64 0, .int .i64 0, .int .i64 0] := by rfl
theorem of30_0 : offOf Try.prog 30 0 = some 0 := by rfl
theorem of30_1 : offOf Try.prog 30 1 = some 1 := by rfl
theorem of30_2 : offOf Try.prog 30 2 = some 2 := by rfl
theorem of30_3 : offOf Try.prog 30 3 = some 3 := by rfl
theorem of30_4 : offOf Try.prog 30 4 = some 4 := by rfl
theorem pl30 : placesOf Try.prog 30 = some [(0, 1), (1, 1), (2, 1), (3, 1), (4, 1)] := by rfl
theorem ag33 (w : World) : (isAgg 33).run Try.prog w = .ok true w := by rfl
theorem in33 : (Try.prog.info? 33).isSome = true := by rfl
theorem sz33 : szOf Try.prog 33 = 5 := by rfl
theorem zr33 : ((Try.prog.info? 33).bind (·.zero)).bind cellsL = some [.int .i64 0, .int .i64 0, .int .i64 0, .int .i64 0, .int .i64 0] := by rfl
theorem ag35 (w : World) : (isAgg 35).run Try.prog w = .ok true w := by rfl
theorem in35 : (Try.prog.info? 35).isSome = true := by rfl
theorem sz35 : szOf Try.prog 35 = 5 := by rfl
theorem zr35 : ((Try.prog.info? 35).bind (·.zero)).bind cellsL = some [.int .i64 0, .int .i64 0, .int .i64 0, .int .i64 0, .int .i64 0] := by rfl
theorem of35_0 : offOf Try.prog 35 0 = some 0 := by rfl
theorem pl35 : placesOf Try.prog 35 = some [(0, 5)] := by rfl
theorem ag37 (w : World) : (isAgg 37).run Try.prog w = .ok true w := by rfl
theorem in37 : (Try.prog.info? 37).isSome = true := by rfl
theorem sz37 : szOf Try.prog 37 = 10 := by rfl
theorem zr37 : ((Try.prog.info? 37).bind (·.zero)).bind cellsL = some [.int .i64 0, .int .i64 0, .int .i64 0, .int .i64 0, .int .i64 0, .int .i64 0, .int .i64 0, .int .i64 0, .int .i64 0, .int .i64 0] := by rfl
theorem of37_0 : offOf Try.prog 37 0 = some 0 := by rfl
theorem of37_1 : offOf Try.prog 37 1 = some 5 := by rfl
theorem pl37 : placesOf Try.prog 37 = some [(0, 5), (5, 5)] := by rfl
theorem ag44 (w : World) : (isAgg 44).run Try.prog w = .ok false w := by rfl
theorem in44 : (Try.prog.info? 44).isSome = true := by rfl
theorem sz44 : szOf Try.prog 44 = 1 := by rfl
theorem zr44 : ((Try.prog.info? 44).bind (·.zero)).bind cellsL = some [.slice none 0 0] := by rfl
theorem ag46 (w : World) : (isAgg 46).run Try.prog w = .ok true w := by rfl
theorem in46 : (Try.prog.info? 46).isSome = true := by rfl
theorem sz46 : szOf Try.prog 46 = 2 := by rfl
theorem zr46 : ((Try.prog.info? 46).bind (·.zero)).bind cellsL = some [.slice none 0 0, .slice none 0 0] := by rfl
theorem of46_0 : offOf Try.prog 46 0 = some 0 := by rfl
theorem of46_1 : offOf Try.prog 46 1 = some 1 := by rfl
theorem pl46 : placesOf Try.prog 46 = some [(0, 1), (1, 1)] := by rfl
theorem ag51 (w : World) : (isAgg 51).run Try.prog w = .ok true w := by rfl
theorem in51 : (Try.prog.info? 51).isSome = true := by rfl
theorem sz51 : szOf Try.prog 51 = 2 := by rfl
theorem zr51 : ((Try.prog.info? 51).bind (·.zero)).bind cellsL = some [.int .i64 0, .bool false] := by rfl
theorem of51_0 : offOf Try.prog 51 0 = some 0 := by rfl
theorem of51_1 : offOf Try.prog 51 1 = some 1 := by rfl
theorem pl51 : placesOf Try.prog 51 = some [(0, 1), (1, 1)] := by rfl
theorem ag54 (w : World) : (isAgg 54).run Try.prog w = .ok false w := by rfl
theorem in54 : (Try.prog.info? 54).isSome = true := by rfl
theorem sz54 : szOf Try.prog 54 = 1 := by rfl
theorem zr54 : ((Try.prog.info? 54).bind (·.zero)).bind cellsL = some [.slice none 0 0] := by rfl
theorem ag58 (w : World) : (isAgg 58).run Try.prog w = .ok false w := by rfl
theorem in58 : (Try.prog.info? 58).isSome = true := by rfl
theorem sz58 : szOf Try.prog 58 = 1 := by rfl
theorem zr58 : ((Try.prog.info? 58).bind (·.zero)).bind cellsL = some [.pointer none] := by rfl
theorem ag61 (w : World) : (isAgg 61).run Try.prog w = .ok false w := by rfl
theorem in61 : (Try.prog.info? 61).isSome = true := by rfl
theorem sz61 : szOf Try.prog 61 = 1 := by rfl
theorem zr61 : ((Try.prog.info? 61).bind (·.zero)).bind cellsL = some [.int .u32 0] := by rfl
theorem ag63 (w : World) : (isAgg 63).run Try.prog w = .ok true w := by rfl
theorem in63 : (Try.prog.info? 63).isSome = true := by rfl
theorem sz63 : szOf Try.prog 63 = 2 := by rfl
theorem zr63 : ((Try.prog.info? 63).bind (·.zero)).bind cellsL = some [.int .i64 0, .int .u32 0] := by rfl
theorem of63_0 : offOf Try.prog 63 0 = some 0 := by rfl
theorem of63_1 : offOf Try.prog 63 1 = some 1 := by rfl
theorem pl63 : placesOf Try.prog 63 = some [(0, 1), (1, 1)] := by rfl
theorem ag64 (w : World) : (isAgg 64).run Try.prog w = .ok false w := by rfl
theorem in64 : (Try.prog.info? 64).isSome = true := by rfl
theorem sz64 : szOf Try.prog 64 = 1 := by rfl
theorem zr64 : ((Try.prog.info? 64).bind (·.zero)).bind cellsL = some [.slice none 0 0] := by rfl
theorem ag65 (w : World) : (isAgg 65).run Try.prog w = .ok false w := by rfl
theorem in65 : (Try.prog.info? 65).isSome = true := by rfl
theorem sz65 : szOf Try.prog 65 = 1 := by rfl
theorem zr65 : ((Try.prog.info? 65).bind (·.zero)).bind cellsL = some [.slice none 0 0] := by rfl
theorem ag66 (w : World) : (isAgg 66).run Try.prog w = .ok false w := by rfl
theorem in66 : (Try.prog.info? 66).isSome = true := by rfl
theorem sz66 : szOf Try.prog 66 = 1 := by rfl
theorem zr66 : ((Try.prog.info? 66).bind (·.zero)).bind cellsL = some [.slice none 0 0] := by rfl
theorem ag68 (w : World) : (isAgg 68).run Try.prog w = .ok true w := by rfl
theorem in68 : (Try.prog.info? 68).isSome = true := by rfl
theorem sz68 : szOf Try.prog 68 = 3 := by rfl
theorem zr68 : ((Try.prog.info? 68).bind (·.zero)).bind cellsL = some [.slice none 0 0, .slice none 0 0, .slice none 0 0] := by rfl
theorem of68_0 : offOf Try.prog 68 0 = some 0 := by rfl
theorem of68_1 : offOf Try.prog 68 1 = some 1 := by rfl
theorem of68_2 : offOf Try.prog 68 2 = some 2 := by rfl
theorem pl68 : placesOf Try.prog 68 = some [(0, 1), (1, 1), (2, 1)] := by rfl
theorem ag71 (w : World) : (isAgg 71).run Try.prog w = .ok false w := by rfl
theorem in71 : (Try.prog.info? 71).isSome = true := by rfl
theorem sz71 : szOf Try.prog 71 = 1 := by rfl
theorem zr71 : ((Try.prog.info? 71).bind (·.zero)).bind cellsL = some [.slice none 0 0] := by rfl
theorem ag72 (w : World) : (isAgg 72).run Try.prog w = .ok false w := by rfl
theorem in72 : (Try.prog.info? 72).isSome = true := by rfl
theorem sz72 : szOf Try.prog 72 = 1 := by rfl
theorem zr72 : ((Try.prog.info? 72).bind (·.zero)).bind cellsL = some [.slice none 0 0] := by rfl
theorem ag74 (w : World) : (isAgg 74).run Try.prog w = .ok true w := by rfl
theorem in74 : (Try.prog.info? 74).isSome = true := by rfl
theorem sz74 : szOf Try.prog 74 = 6 := by rfl
theorem zr74 : ((Try.prog.info? 74).bind (·.zero)).bind cellsL = some [.slice none 0 0, .slice none 0 0, .bool false, .bool false, .int .u32 0, .int .i64 0] := by rfl
theorem of74_0 : offOf Try.prog 74 0 = some 0 := by rfl
theorem of74_1 : offOf Try.prog 74 1 = some 1 := by rfl
theorem of74_2 : offOf Try.prog 74 2 = some 2 := by rfl
theorem of74_3 : offOf Try.prog 74 3 = some 3 := by rfl
theorem of74_4 : offOf Try.prog 74 4 = some 4 := by rfl
theorem of74_5 : offOf Try.prog 74 5 = some 5 := by rfl
theorem pl74 : placesOf Try.prog 74 = some [(0, 1), (1, 1), (2, 1), (3, 1), (4, 1), (5, 1)] := by rfl
theorem ag80 (w : World) : (isAgg 80).run Try.prog w = .ok true w := by rfl
theorem in80 : (Try.prog.info? 80).isSome = true := by rfl
theorem sz80 : szOf Try.prog 80 = 5 := by rfl
theorem zr80 : ((Try.prog.info? 80).bind (·.zero)).bind cellsL = some [.int .i64 0, .int .i64 0, .int .i64 0, .int .i64 0, .int .u32 0] := by rfl
theorem of80_0 : offOf Try.prog 80 0 = some 0 := by rfl
theorem of80_1 : offOf Try.prog 80 1 = some 1 := by rfl
theorem of80_2 : offOf Try.prog 80 2 = some 2 := by rfl
theorem of80_3 : offOf Try.prog 80 3 = some 3 := by rfl
theorem of80_4 : offOf Try.prog 80 4 = some 4 := by rfl
theorem pl80 : placesOf Try.prog 80 = some [(0, 1), (1, 1), (2, 1), (3, 1), (4, 1)] := by rfl
theorem ag83 (w : World) : (isAgg 83).run Try.prog w = .ok false w := by rfl
theorem in83 : (Try.prog.info? 83).isSome = true := by rfl
theorem sz83 : szOf Try.prog 83 = 1 := by rfl
theorem zr83 : ((Try.prog.info? 83).bind (·.zero)).bind cellsL = some [.slice none 0 0] := by rfl
theorem ag85 (w : World) : (isAgg 85).run Try.prog w = .ok true w := by rfl
theorem in85 : (Try.prog.info? 85).isSome = true := by rfl
theorem sz85 : szOf Try.prog 85 = 8 := by rfl
theorem zr85 : ((Try.prog.info? 85).bind (·.zero)).bind cellsL = some [.int .i64 0, .int .i64 0, .int .u32 0, .int .u32 0, .int .u32 0, .slice none 0 0, .bool false, .string ⟨#[]⟩] := by rfl
theorem of85_0 : offOf Try.prog 85 0 = some 0 := by rfl
theorem of85_1 : offOf Try.prog 85 1 = some 1 := by rfl
theorem of85_2 : offOf Try.prog 85 2 = some 2 := by rfl
theorem of85_3 : offOf Try.prog 85 3 = some 3 := by rfl
theorem of85_4 : offOf Try.prog 85 4 = some 4 := by rfl
theorem of85_5 : offOf Try.prog 85 5 = some 5 := by rfl
theorem of85_6 : offOf Try.prog 85 6 = some 6 := by rfl
theorem of85_7 : offOf Try.prog 85 7 = some 7 := by rfl
theorem pl85 : placesOf Try.prog 85 = some [(0, 1), (1, 1), (2, 1), (3, 1), (4, 1), (5, 1), (6, 1), (7, 1)] := by rfl
theorem ag89 (w : World) : (isAgg 89).run Try.prog w = .ok true w := by rfl
theorem in89 : (Try.prog.info? 89).isSome = true := by rfl
theorem sz89 : szOf Try.prog 89 = 8 := by rfl
theorem zr89 : ((Try.prog.info? 89).bind (·.zero)).bind cellsL = some [.int .i64 0, .int .i64 0, .int .i64 0, .int .i64 0, .int .i64 0, .int .i64 0, .int .i64 0, .string ⟨#[]⟩] := by rfl
theorem of89_0 : offOf Try.prog 89 0 = some 0 := by rfl
theorem of89_1 : offOf Try.prog 89 1 = some 1 := by rfl
theorem of89_2 : offOf Try.prog 89 2 = some 2 := by rfl
theorem of89_3 : offOf Try.prog 89 3 = some 3 := by rfl
theorem of89_4 : offOf Try.prog 89 4 = some 4 := by rfl
theorem of89_5 : offOf Try.prog 89 5 = some 5 := by rfl
theorem of89_6 : offOf Try.prog 89 6 = some 6 := by rfl
theorem of89_7 : offOf Try.prog 89 7 = some 7 := by rfl
theorem pl89 : placesOf Try.prog 89 = some [(0, 1), (1, 1), (2, 1), (3, 1), (4, 1), (5, 1), (6, 1), (7, 1)] := by rfl
theorem ag93 (w : World) : (isAgg 93).run Try.prog w = .ok true w := by rfl
theorem in93 : (Try.prog.info? 93).isSome = true := by rfl
theorem sz93 : szOf Try.prog 93 = 5 := by rfl
theorem zr93 : ((Try.prog.info? 93).bind (·.zero)).bind cellsL = some [.int .i64 0, .string ⟨#[]⟩, .bool false, .int .u8 0, .int .i64 0] := by rfl
theorem of93_0 : offOf Try.prog 93 0 = some 0 := by rfl
theorem of93_1 : offOf Try.prog 93 1 = some 1 := by rfl
theorem of93_2 : offOf Try.prog 93 2 = some 2 := by rfl
theorem of93_3 : offOf Try.prog 93 3 = some 3 := by rfl
theorem of93_4 : offOf Try.prog 93 4 = some 4 := by rfl
theorem pl93 : placesOf Try.prog 93 = some [(0, 1), (1, 1), (2, 1), (3, 1), (4, 1)] := by rfl
theorem ag99 (w : World) : (isAgg 99).run Try.prog w = .ok true w := by rfl
theorem in99 : (Try.prog.info? 99).isSome = true := by rfl
theorem sz99 : szOf Try.prog 99 = 2 := by rfl
theorem zr99 : ((Try.prog.info? 99).bind (·.zero)).bind cellsL = some [.int .i64 0, .int .i64 0] := by rfl
theorem ag108 (w : World) : (isAgg 108).run Try.prog w = .ok true w := by rfl
theorem in108 : (Try.prog.info? 108).isSome = true := by rfl
theorem sz108 : szOf Try.prog 108 = 8 := by rfl
theorem zr108 : ((Try.prog.info? 108).bind (·.zero)).bind cellsL = some [.int .i64 0, .int .u32 0, .int .i64 0, .int .i64 0, .int .i64 0, .int .i64 0, .int .u32 0, .string ⟨#[]⟩] := by rfl
theorem of108_0 : offOf Try.prog 108 0 = some 0 := by rfl
theorem of108_1 : offOf Try.prog 108 1 = some 2 := by rfl
theorem of108_2 : offOf Try.prog 108 2 = some 7 := by rfl
theorem pl108 : placesOf Try.prog 108 = some [(0, 2), (2, 5), (7, 1)] := by rfl
theorem ag121 (w : World) : (isAgg 121).run Try.prog w = .ok true w := by rfl
theorem in121 : (Try.prog.info? 121).isSome = true := by rfl
theorem sz121 : szOf Try.prog 121 = 7 := by rfl
theorem zr121 : ((Try.prog.info? 121).bind (·.zero)).bind cellsL = some [.pointer none, .slice none 0 0, .slice none 0 0, .bool false, .bool false, .int .u32 0, .int .i64 0] := by rfl
theorem of121_0 : offOf Try.prog 121 0 = some 0 := by rfl
theorem of121_1 : offOf Try.prog 121 1 = some 1 := by rfl
theorem pl121 : placesOf Try.prog 121 = some [(0, 1), (1, 6)] := by rfl
theorem ag123 (w : World) : (isAgg 123).run Try.prog w = .ok false w := by rfl
theorem in123 : (Try.prog.info? 123).isSome = true := by rfl
theorem sz123 : szOf Try.prog 123 = 1 := by rfl
theorem zr123 : ((Try.prog.info? 123).bind (·.zero)).bind cellsL = some [.slice none 0 0] := by rfl
theorem ag125 (w : World) : (isAgg 125).run Try.prog w = .ok true w := by rfl
theorem in125 : (Try.prog.info? 125).isSome = true := by rfl
theorem sz125 : szOf Try.prog 125 = 7 := by rfl
theorem zr125 : ((Try.prog.info? 125).bind (·.zero)).bind cellsL = some [.int .i64 0, .int .i64 0, .int .i64 0, .int .i64 0, .int .i64 0, .bool false, .string ⟨#[]⟩] := by rfl
theorem of125_0 : offOf Try.prog 125 0 = some 0 := by rfl
theorem of125_1 : offOf Try.prog 125 1 = some 1 := by rfl
theorem of125_2 : offOf Try.prog 125 2 = some 2 := by rfl
theorem of125_3 : offOf Try.prog 125 3 = some 3 := by rfl
theorem of125_4 : offOf Try.prog 125 4 = some 4 := by rfl
theorem of125_5 : offOf Try.prog 125 5 = some 5 := by rfl
theorem of125_6 : offOf Try.prog 125 6 = some 6 := by rfl
theorem pl125 : placesOf Try.prog 125 = some [(0, 1), (1, 1), (2, 1), (3, 1), (4, 1), (5, 1), (6, 1)] := by rfl
theorem ag126 (w : World) : (isAgg 126).run Try.prog w = .ok false w := by rfl
theorem in126 : (Try.prog.info? 126).isSome = true := by rfl
theorem sz126 : szOf Try.prog 126 = 1 := by rfl
theorem zr126 : ((Try.prog.info? 126).bind (·.zero)).bind cellsL = some [.slice none 0 0] := by rfl
theorem ag127 (w : World) : (isAgg 127).run Try.prog w = .ok false w := by rfl
theorem in127 : (Try.prog.info? 127).isSome = true := by rfl
theorem sz127 : szOf Try.prog 127 = 1 := by rfl
theorem zr127 : ((Try.prog.info? 127).bind (·.zero)).bind cellsL = some [.slice none 0 0] := by rfl
theorem ag128 (w : World) : (isAgg 128).run Try.prog w = .ok false w := by rfl
theorem in128 : (Try.prog.info? 128).isSome = true := by rfl
theorem sz128 : szOf Try.prog 128 = 1 := by rfl
theorem zr128 : ((Try.prog.info? 128).bind (·.zero)).bind cellsL = some [.slice none 0 0] := by rfl
theorem ag130 (w : World) : (isAgg 130).run Try.prog w = .ok true w := by rfl
theorem in130 : (Try.prog.info? 130).isSome = true := by rfl
theorem sz130 : szOf Try.prog 130 = 6 := by rfl
theorem zr130 : ((Try.prog.info? 130).bind (·.zero)).bind cellsL = some [.slice none 0 0, .slice none 0 0, .bool false, .bool false, .int .i64 0, .int .i64 0] := by rfl
theorem of130_0 : offOf Try.prog 130 0 = some 0 := by rfl
theorem of130_1 : offOf Try.prog 130 1 = some 1 := by rfl
theorem of130_2 : offOf Try.prog 130 2 = some 2 := by rfl
theorem of130_3 : offOf Try.prog 130 3 = some 3 := by rfl
theorem of130_4 : offOf Try.prog 130 4 = some 4 := by rfl
theorem of130_5 : offOf Try.prog 130 5 = some 5 := by rfl
theorem pl130 : placesOf Try.prog 130 = some [(0, 1), (1, 1), (2, 1), (3, 1), (4, 1), (5, 1)] := by rfl
theorem ag135 (w : World) : (isAgg 135).run Try.prog w = .ok true w := by rfl
theorem in135 : (Try.prog.info? 135).isSome = true := by rfl
theorem sz135 : szOf Try.prog 135 = 2 := by rfl
theorem zr135 : ((Try.prog.info? 135).bind (·.zero)).bind cellsL = some [.int .i64 0, .int .i64 0] := by rfl
theorem ag149 (w : World) : (isAgg 149).run Try.prog w = .ok true w := by rfl
theorem in149 : (Try.prog.info? 149).isSome = true := by rfl
theorem sz149 : szOf Try.prog 149 = 5 := by rfl
theorem zr149 : ((Try.prog.info? 149).bind (·.zero)).bind cellsL = some [.int .i64 0, .int .i64 0, .int .i64 0, .bool false, .string ⟨#[]⟩] := by rfl
theorem of149_0 : offOf Try.prog 149 0 = some 0 := by rfl
theorem of149_1 : offOf Try.prog 149 1 = some 1 := by rfl
theorem of149_2 : offOf Try.prog 149 2 = some 2 := by rfl
theorem of149_3 : offOf Try.prog 149 3 = some 3 := by rfl
theorem of149_4 : offOf Try.prog 149 4 = some 4 := by rfl
theorem pl149 : placesOf Try.prog 149 = some [(0, 1), (1, 1), (2, 1), (3, 1), (4, 1)] := by rfl
theorem ag158 (w : World) : (isAgg 158).run Try.prog w = .ok true w := by rfl
theorem in158 : (Try.prog.info? 158).isSome = true := by rfl
theorem sz158 : szOf Try.prog 158 = 4 := by rfl
theorem zr158 : ((Try.prog.info? 158).bind (·.zero)).bind cellsL = some [.int .i64 0, .string ⟨#[]⟩, .bool false, .int .u8 0] := by rfl
theorem of158_0 : offOf Try.prog 158 0 = some 0 := by rfl
theorem of158_1 : offOf Try.prog 158 1 = some 1 := by rfl
theorem of158_2 : offOf Try.prog 158 2 = some 2 := by rfl
theorem of158_3 : offOf Try.prog 158 3 = some 3 := by rfl
theorem pl158 : placesOf Try.prog 158 = some [(0, 1), (1, 1), (2, 1), (3, 1)] := by rfl
theorem ag163 (w : World) : (isAgg 163).run Try.prog w = .ok true w := by rfl
theorem in163 : (Try.prog.info? 163).isSome = true := by rfl
theorem sz163 : szOf Try.prog 163 = 8 := by rfl
theorem zr163 : ((Try.prog.info? 163).bind (·.zero)).bind cellsL = some [.int .i64 0, .bool false, .bool false, .int .i64 0, .bool false, .bool false, .bool false, .bool false] := by rfl
theorem of163_0 : offOf Try.prog 163 0 = some 0 := by rfl
theorem of163_1 : offOf Try.prog 163 1 = some 1 := by rfl
theorem of163_2 : offOf Try.prog 163 2 = some 2 := by rfl
theorem of163_3 : offOf Try.prog 163 3 = some 3 := by rfl
theorem of163_4 : offOf Try.prog 163 4 = some 4 := by rfl
theorem of163_5 : offOf Try.prog 163 5 = some 5 := by rfl
theorem of163_6 : offOf Try.prog 163 6 = some 6 := by rfl
theorem of163_7 : offOf Try.prog 163 7 = some 7 := by rfl
theorem pl163 : placesOf Try.prog 163 = some [(0, 1), (1, 1), (2, 1), (3, 1), (4, 1), (5, 1), (6, 1), (7, 1)] := by rfl
theorem ag167 (w : World) : (isAgg 167).run Try.prog w = .ok false w := by rfl
theorem in167 : (Try.prog.info? 167).isSome = true := by rfl
theorem sz167 : szOf Try.prog 167 = 1 := by rfl
theorem zr167 : ((Try.prog.info? 167).bind (·.zero)).bind cellsL = some [.slice none 0 0] := by rfl
theorem ag169 (w : World) : (isAgg 169).run Try.prog w = .ok false w := by rfl
theorem in169 : (Try.prog.info? 169).isSome = true := by rfl
theorem sz169 : szOf Try.prog 169 = 1 := by rfl
theorem zr169 : ((Try.prog.info? 169).bind (·.zero)).bind cellsL = some [.slice none 0 0] := by rfl
end Go.Proofs.Ytoeaamohchpjdaa
