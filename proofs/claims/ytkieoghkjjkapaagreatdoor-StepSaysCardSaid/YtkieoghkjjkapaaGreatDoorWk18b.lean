/-
  Codes that a law's wakes runs through, printed by Gen. No condition.
-/
import Derived.Test.YtkieoghkjjkapaaGreatDoorWk18a
namespace Go.Proofs.YtkieoghkjjkapaaGreatDoor.Sx
open Go.RowKit
set_option maxRecDepth 100000
def ir18_179 : XF := ⟨240, 1, [(2, none)], (.seq (.reg [(q18 1 (.box 39 5 (.t 0))),
  (q18 2 (.mv (.c (.b false))))])
  (.seq (.seq (.reg [(k18 5 5 1),
  (q18 6 (.call 259 [(.t 5)]))])
  (.cond (.t 6) (.seq (.reg [(q18 2 (.mv (.c (.b true))))])
  .ret)
  .skip))
  (.seq (.seq (.reg [(f18 7 0 1),
  (l18 8 1 7)])
  (.blk 0 (.seq (.reg [(q18 10 (.bop .eql (.t 8) (.c (.i .i8 9)))),
  (m18 9 10)])
  (.cond (.t 9) (.seq (.reg [(k18 11 5 1),
  (q18 12 (.call 81 [(.t 11), (.c (.b false)), (.c (.b false)), (.c (.b false)), (.c (.b true))])),
  (m18 13 12),
  (g18 14 13 true (.fa 4 (.t 1))),
  (g18 15 13 true (.ld false 1 (.t 14))),
  (g18 16 13 true (.len 1 (.t 15))),
  (g18 17 13 true (.bop .eql (.t 16) (.c (.i .i64 2)))),
  (q18 18 (.pick (.t 13) (.t 17) (.c (.b false)))),
  (m18 19 18),
  (g18 20 19 true (.fa 4 (.t 1))),
  (g18 21 19 true (.ld false 1 (.t 20))),
  (g18 22 19 true (.call 261 [(.t 21)])),
  (q18 23 (.pick (.t 19) (.t 22) (.c (.b false)))),
  (m18 2 23)])
  .ret)
  (.seq (.reg [(q18 25 (.bop .eql (.t 8) (.c (.i .i8 10)))),
  (m18 24 25)])
  (.cond (.t 24) (.seq (.reg [(k18 26 5 1),
  (q18 27 (.call 81 [(.t 26), (.c (.b false)), (.c (.b false)), (.c (.b false)), (.c (.b true))])),
  (m18 28 27),
  (g18 29 28 true (.fa 4 (.t 1))),
  (g18 30 28 true (.ld false 1 (.t 29))),
  (g18 31 28 true (.call 261 [(.t 30)])),
  (q18 32 (.pick (.t 28) (.t 31) (.c (.b false)))),
  (m18 2 32)])
  .ret)
  (.seq (.reg [(q18 34 (.bop .eql (.t 8) (.c (.i .i8 11)))),
  (m18 33 34)])
  (.cond (.t 33) (.seq (.reg [(f18 36 2 1),
  (l18 37 1 36),
  (q18 38 (.call 176 [(.t 37), (.c (.i .i64 0))])),
  (m18 35 38),
  (q18 39 (.ex (.t 35) 0)),
  (q18 40 (.ex (.t 35) 1)),
  (m18 3 39),
  (m18 4 40)])
  (.seq (.reg [(m18 41 4),
  (m18 42 41),
  (g18 43 42 false (.fa 2 (.t 1))),
  (g18 44 42 false (.ld false 1 (.t 43))),
  (g18 45 42 false (.call 262 [(.t 44)])),
  (q18 46 (.pick (.t 42) (.c (.b true)) (.t 45))),
  (m18 47 46),
  (g18 48 47 true (.ld true 5 (.t 1))),
  (g18 49 47 true (.call 81 [(.t 48), (.c (.b false)), (.c (.b true)), (.c (.b false)), (.c (.b true))])),
  (q18 50 (.pick (.t 47) (.t 49) (.c (.b false)))),
  (m18 51 50),
  (g18 52 51 true (.fa 4 (.t 1))),
  (g18 53 51 true (.ld false 1 (.t 52))),
  (g18 54 51 true (.len 1 (.t 53))),
  (g18 55 51 true (.bop .eql (.t 54) (.c (.i .i64 2)))),
  (q18 56 (.pick (.t 51) (.t 55) (.c (.b false)))),
  (m18 57 56),
  (g18 58 57 true (.fa 4 (.t 1))),
  (g18 59 57 true (.ld false 1 (.t 58))),
  (g18 60 57 true (.call 261 [(.t 59)])),
  (q18 61 (.pick (.t 57) (.t 60) (.c (.b false)))),
  (m18 2 61)])
  .ret))
  (.seq (.reg [(q18 63 (.bop .eql (.t 8) (.c (.i .i8 13)))),
  (m18 62 63)])
  (.cond (.t 62) (.seq (.reg [(k18 64 5 1),
  (q18 65 (.call 81 [(.t 64), (.c (.b false)), (.c (.b false)), (.c (.b false)), (.c (.b true))])),
  (m18 66 65),
  (g18 67 66 true (.fa 4 (.t 1))),
  (g18 68 66 true (.ld false 1 (.t 67))),
  (g18 69 66 true (.len 1 (.t 68))),
  (g18 70 66 true (.bop .eql (.t 69) (.c (.i .i64 2)))),
  (q18 71 (.pick (.t 66) (.t 70) (.c (.b false)))),
  (m18 72 71),
  (g18 73 72 true (.fa 4 (.t 1))),
  (g18 74 72 true (.ld false 1 (.t 73))),
  (g18 75 72 true (.ia 5 (.t 74) (.c (.i .i64 0)))),
  (g18 76 72 true (.ld true 5 (.t 75))),
  (g18 77 72 true (.call 177 [(.t 76)])),
  (q18 78 (.pick (.t 72) (.t 77) (.c (.b false)))),
  (m18 79 78),
  (g18 80 79 true (.fa 4 (.t 1))),
  (g18 81 79 true (.ld false 1 (.t 80))),
  (g18 82 79 true (.ia 5 (.t 81) (.c (.i .i64 1)))),
  (g18 83 79 true (.ld true 5 (.t 82))),
  (g18 84 79 true (.call 179 [(.t 83)])),
  (q18 85 (.pick (.t 79) (.t 84) (.c (.b false)))),
  (m18 2 85)])
  .ret)
  (.seq (.reg [(q18 87 (.bop .eql (.t 8) (.c (.i .i8 14)))),
  (m18 86 87)])
  (.cond (.t 86) (.seq (.reg [(k18 88 5 1),
  (q18 89 (.call 81 [(.t 88), (.c (.b false)), (.c (.b true)), (.c (.b false)), (.c (.b true))])),
  (m18 90 89),
  (g18 91 90 true (.fa 2 (.t 1))),
  (g18 92 90 true (.ld false 1 (.t 91))),
  (g18 93 90 true (.call 82 [(.t 92)])),
  (q18 94 (.pick (.t 90) (.t 93) (.c (.b false)))),
  (m18 95 94),
  (g18 96 95 true (.fa 4 (.t 1))),
  (g18 97 95 true (.ld false 1 (.t 96))),
  (g18 98 95 true (.len 1 (.t 97))),
  (g18 99 95 true (.bop .leq (.t 98) (.c (.i .i64 8)))),
  (q18 100 (.pick (.t 95) (.t 99) (.c (.b false)))),
  (m18 101 100),
  (g18 102 101 true (.fa 4 (.t 1))),
  (g18 103 101 true (.ld false 1 (.t 102))),
  (g18 104 101 true (.call 261 [(.t 103)])),
  (q18 105 (.pick (.t 101) (.t 104) (.c (.b false)))),
  (m18 2 105)])
  .ret)
  (.seq (.reg [(q18 107 (.bop .eql (.t 8) (.c (.i .i8 15)))),
  (m18 106 107)])
  (.cond (.t 106) (.seq (.reg [(k18 108 5 1),
  (q18 109 (.call 81 [(.t 108), (.c (.b false)), (.c (.b true)), (.c (.b true)), (.c (.b true))])),
  (m18 110 109),
  (g18 111 110 true (.fa 2 (.t 1))),
  (g18 112 110 true (.ld false 1 (.t 111))),
  (g18 113 110 true (.call 82 [(.t 112)])),
  (q18 114 (.pick (.t 110) (.t 113) (.c (.b false)))),
  (m18 115 114),
  (g18 116 115 true (.fa 3 (.t 1))),
  (g18 117 115 true (.ld false 1 (.t 116))),
  (g18 118 115 true (.call 82 [(.t 117)])),
  (q18 119 (.pick (.t 115) (.t 118) (.c (.b false)))),
  (m18 120 119),
  (g18 121 120 true (.fa 4 (.t 1))),
  (g18 122 120 true (.ld false 1 (.t 121))),
  (g18 123 120 true (.len 1 (.t 122))),
  (g18 124 120 true (.bop .leq (.t 123) (.c (.i .i64 8)))),
  (q18 125 (.pick (.t 120) (.t 124) (.c (.b false)))),
  (m18 126 125),
  (g18 127 126 true (.fa 4 (.t 1))),
  (g18 128 126 true (.ld false 1 (.t 127))),
  (g18 129 126 true (.call 261 [(.t 128)])),
  (q18 130 (.pick (.t 126) (.t 129) (.c (.b false)))),
  (m18 2 130)])
  .ret)
  (.seq (.reg [(q18 132 (.bop .eql (.t 8) (.c (.i .i8 16)))),
  (m18 131 132)])
  (.cond (.t 131) (.seq (.reg [(k18 133 5 1),
  (q18 134 (.call 81 [(.t 133), (.c (.b false)), (.c (.b false)), (.c (.b false)), (.c (.b true))])),
  (m18 135 134),
  (g18 136 135 true (.fa 4 (.t 1))),
  (g18 137 135 true (.ld false 1 (.t 136))),
  (g18 138 135 true (.len 1 (.t 137))),
  (g18 139 135 true (.bop .geq (.t 138) (.c (.i .i64 1)))),
  (q18 140 (.pick (.t 135) (.t 139) (.c (.b false)))),
  (m18 141 140),
  (g18 142 141 true (.fa 4 (.t 1))),
  (g18 143 141 true (.ld false 1 (.t 142))),
  (g18 144 141 true (.len 1 (.t 143))),
  (g18 145 141 true (.bop .leq (.t 144) (.c (.i .i64 9)))),
  (q18 146 (.pick (.t 141) (.t 145) (.c (.b false)))),
  (m18 147 146),
  (g18 148 147 true (.fa 4 (.t 1))),
  (g18 149 147 true (.ld false 1 (.t 148))),
  (g18 150 147 true (.ia 5 (.t 149) (.c (.i .i64 0)))),
  (g18 151 147 true (.fa 0 (.t 150))),
  (g18 152 147 true (.ld false 1 (.t 151))),
  (g18 153 147 true (.bop .eql (.t 152) (.c (.i .i8 5)))),
  (q18 154 (.pick (.t 147) (.t 153) (.c (.b false)))),
  (m18 155 154),
  (g18 156 155 true (.fa 4 (.t 1))),
  (g18 157 155 true (.ld false 1 (.t 156))),
  (g18 158 155 true (.call 261 [(.t 157)])),
  (q18 159 (.pick (.t 155) (.t 158) (.c (.b false)))),
  (m18 2 159)])
  .ret)
  (.seq (.reg [(q18 161 (.bop .eql (.t 8) (.c (.i .i8 17)))),
  (m18 160 161)])
  (.cond (.t 160) (.seq (.reg [(k18 162 5 1),
  (q18 163 (.call 81 [(.t 162), (.c (.b true)), (.c (.b true)), (.c (.b true)), (.c (.b false))])),
  (m18 164 163),
  (g18 165 164 true (.fa 2 (.t 1))),
  (g18 166 164 true (.ld false 1 (.t 165))),
  (g18 167 164 true (.call 82 [(.t 166)])),
  (q18 168 (.pick (.t 164) (.t 167) (.c (.b false)))),
  (m18 169 168),
  (g18 170 169 true (.fa 3 (.t 1))),
  (g18 171 169 true (.ld false 1 (.t 170))),
  (g18 172 169 true (.call 82 [(.t 171)])),
  (q18 173 (.pick (.t 169) (.t 172) (.c (.b false)))),
  (m18 174 173),
  (g18 175 174 true (.fa 1 (.t 1))),
  (g18 176 174 true (.ld false 1 (.t 175))),
  (g18 177 174 true (.bop .geq (.t 176) (.c (.i .i64 0)))),
  (q18 178 (.pick (.t 174) (.t 177) (.c (.b false)))),
  (m18 179 178),
  (g18 180 179 true (.fa 1 (.t 1))),
  (g18 181 179 true (.ld false 1 (.t 180))),
  (g18 182 179 true (.bop .leq (.t 181) (.c (.i .i64 8)))),
  (q18 183 (.pick (.t 179) (.t 182) (.c (.b false)))),
  (m18 2 183)])
  .ret)
  (.seq (.reg [(q18 185 (.bop .eql (.t 8) (.c (.i .i8 18)))),
  (m18 184 185)])
  (.cond (.t 184) (.seq (.reg [(k18 186 5 1),
  (q18 187 (.call 81 [(.t 186), (.c (.b false)), (.c (.b false)), (.c (.b false)), (.c (.b true))])),
  (m18 188 187),
  (g18 189 188 true (.fa 4 (.t 1))),
  (g18 190 188 true (.ld false 1 (.t 189))),
  (g18 191 188 true (.len 1 (.t 190))),
  (g18 192 188 true (.bop .geq (.t 191) (.c (.i .i64 2)))),
  (q18 193 (.pick (.t 188) (.t 192) (.c (.b false)))),
  (m18 194 193),
  (g18 195 194 true (.fa 4 (.t 1))),
  (g18 196 194 true (.ld false 1 (.t 195))),
  (g18 197 194 true (.ia 5 (.t 196) (.c (.i .i64 0)))),
  (g18 198 194 true (.ld true 5 (.t 197))),
  (g18 199 194 true (.call 179 [(.t 198)])),
  (q18 200 (.pick (.t 194) (.t 199) (.c (.b false)))),
  (m18 201 200),
  (g18 202 201 true (.fa 4 (.t 1))),
  (g18 203 201 true (.ld false 1 (.t 202))),
  (g18 204 201 true (.slc 5 (.t 203) (some (.c (.i .i64 1))) none none)),
  (g18 205 201 true (.call 83 [(.t 204), (.c (.i .i64 1))])),
  (q18 206 (.pick (.t 201) (.t 205) (.c (.b false)))),
  (m18 2 206)])
  .ret)
  (.seq (.reg [(q18 208 (.bop .eql (.t 8) (.c (.i .i8 19)))),
  (m18 207 208)])
  (.cond (.t 207) (.seq (.reg [(k18 209 5 1),
  (q18 210 (.call 81 [(.t 209), (.c (.b false)), (.c (.b false)), (.c (.b false)), (.c (.b true))])),
  (m18 211 210),
  (g18 212 211 true (.fa 4 (.t 1))),
  (g18 213 211 true (.ld false 1 (.t 212))),
  (g18 214 211 true (.len 1 (.t 213))),
  (g18 215 211 true (.bop .geq (.t 214) (.c (.i .i64 2)))),
  (q18 216 (.pick (.t 211) (.t 215) (.c (.b false)))),
  (m18 217 216),
  (g18 218 217 true (.fa 4 (.t 1))),
  (g18 219 217 true (.ld false 1 (.t 218))),
  (g18 220 217 true (.ia 5 (.t 219) (.c (.i .i64 0)))),
  (g18 221 217 true (.ld true 5 (.t 220))),
  (g18 222 217 true (.call 179 [(.t 221)])),
  (q18 223 (.pick (.t 217) (.t 222) (.c (.b false)))),
  (m18 224 223),
  (g18 225 224 true (.fa 4 (.t 1))),
  (g18 226 224 true (.ld false 1 (.t 225))),
  (g18 227 224 true (.slc 5 (.t 226) (some (.c (.i .i64 1))) none none)),
  (g18 228 224 true (.call 83 [(.t 227), (.c (.i .i64 2))])),
  (q18 229 (.pick (.t 224) (.t 228) (.c (.b false)))),
  (m18 230 229),
  (g18 231 230 true (.fa 4 (.t 1))),
  (g18 232 230 true (.ld false 1 (.t 231))),
  (g18 233 230 true (.slc 5 (.t 232) (some (.c (.i .i64 1))) none none)),
  (g18 234 230 true (.call 263 [(.t 233)])),
  (q18 235 (.pick (.t 230) (.t 234) (.c (.b false)))),
  (m18 2 235)])
  .ret)
  (.seq (.reg [(q18 237 (.bop .eql (.t 8) (.c (.i .i8 20)))),
  (m18 236 237)])
  (.cond (.t 236) (.seq (.reg [(k18 238 5 1),
  (q18 239 (.call 264 [(.t 238)])),
  (m18 2 239)])
  .ret)
  .skip))))))))))))))))))))))))
  (.seq (.reg [(q18 2 (.mv (.c (.b false))))])
  .ret))))⟩
def ir18_180 : XF := ⟨29, 2, [(4, none)], (.seq (.reg [(q18 4 (.mv (.c (.i .i64 0))))])
  (.seq (.seq (.reg [(q18 5 (.mv (.c (.i .i64 0))))])
  (.blk 0 (.loop (.seq (.seq (.reg [(m18 6 5),
  (m18 7 0),
  (n18 8 7),
  (f18 9 9 8),
  (l18 10 1 9),
  (q18 11 (.len 1 (.t 10))),
  (q18 12 (.bop .lss (.t 6) (.t 11)))])
  (.cond (.t 12) .skip
  (.exit 0)))
  (.seq (.blk 1 (.seq (.reg [(m18 15 1),
  (q18 16 (.bop .neq (.t 15) (.c (.s [])))),
  (m18 17 16),
  (g18 18 17 true (.mv (.t 0))),
  (g18 19 17 true (.nck (.t 18))),
  (g18 20 17 true (.fa 9 (.t 19))),
  (g18 21 17 true (.ld false 1 (.t 20))),
  (g18 22 17 true (.mv (.t 5))),
  (g18 23 17 true (.ia 1 (.t 21) (.t 22))),
  (g18 24 17 true (.ld false 1 (.t 23))),
  (g18 25 17 true (.mv (.t 1))),
  (g18 26 17 true (.bop .eql (.t 24) (.t 25))),
  (q18 27 (.pick (.t 17) (.t 26) (.c (.b false))))])
  (.cond (.t 27) (.seq (.reg [(m18 28 5),
  (m18 4 28)])
  .ret)
  .skip)))
  (.reg [(m18 13 5),
  (q18 14 (.bop .add (.t 13) (.c (.i .i64 1)))),
  (m18 5 14)]))))))
  (.seq (.reg [(q18 4 (.mv (.c (.i .i64 (-1)))))])
  .ret)))⟩
def ir18_181 : XF := ⟨11, 1, [(2, none)], (.seq (.reg [(q18 2 (.mv (.c (.s []))))])
  (.seq (.seq (.reg [(m18 3 0),
  (q18 4 (.bop .geq (.t 3) (.c (.i .i64 0)))),
  (m18 5 4),
  (g18 6 5 true (.mv (.t 0))),
  (g18 7 5 true (.bop .lss (.t 6) (.c (.i .i64 32)))),
  (q18 8 (.pick (.t 5) (.t 7) (.c (.b false))))])
  (.cond (.t 8) (.seq (.reg [(m18 9 0),
  (q18 10 (.call 21 [(.t 9)])),
  (m18 2 10)])
  .ret)
  .skip))
  (.seq (.reg [(q18 2 (.mv (.c (.s [95]))))])
  .ret)))⟩
def ir18_185 : XF := ⟨17, 2, [], (.seq (.reg [(q18 4 (.mv (.c (.i .i64 0))))])
  (.blk 0 (.loop (.seq (.seq (.reg [(m18 5 4),
  (m18 6 1),
  (q18 7 (.len 1 (.t 6))),
  (q18 8 (.bop .lss (.t 5) (.t 7)))])
  (.cond (.t 8) .skip
  (.exit 0)))
  (.seq (.blk 1 (.reg [(m18 11 0),
  (m18 12 1),
  (m18 13 4),
  (q18 14 (.ia 5 (.t 12) (.t 13))),
  (k18 15 5 14),
  (q18 16 (.call 144 [(.t 11), (.t 15), (.c (.b false))]))]))
  (.reg [(m18 9 4),
  (q18 10 (.bop .add (.t 9) (.c (.i .i64 1)))),
  (m18 4 10)]))))))⟩
def ir18_186 : XF := ⟨78, 2, [(4, some (true, 14))], (.seq (.reg [(q18 3 (.box 39 5 (.t 1))),
  (q18 4 (.box 41 14 (.c (.ag [(.i .i8 0), (.i .i64 0), (.i .i64 0), (.i .i8 0), (.i .i64 0), (.s []), (.s []), .sln, (.i .i8 0), (.i .i64 0), (.s []), (.s []), .sln, .sln]))))])
  (.seq (.par [(m18 8 0),
  (n18 9 8),
  (f18 10 6 9),
  (l18 11 1 10),
  (f18 12 2 3),
  (l18 13 1 12),
  (m18 5 11),
  (m18 6 13)] [0, 1, 3, 7, 0, 16, 15, 127])
  (.seq (.seq (.reg [(f18 14 0 3),
  (l18 15 1 14),
  (q18 16 (.bop .eql (.t 15) (.c (.i .i8 15))))])
  (.cond (.t 16) (.par [(f18 17 2 3),
  (l18 18 1 17),
  (f18 19 3 3),
  (l18 20 1 19),
  (m18 5 18),
  (m18 6 20)] [0, 1, 0, 4, 3, 31])
  .skip))
  (.seq (.seq (.reg [(q18 7 (.mv (.c (.i .i64 0))))])
  (.blk 0 (.loop (.seq (.seq (.reg [(m18 21 7),
  (m18 22 0),
  (n18 23 22),
  (f18 24 5 23),
  (l18 25 1 24),
  (q18 26 (.len 1 (.t 25))),
  (q18 27 (.bop .lss (.t 21) (.t 26)))])
  (.cond (.t 27) .skip
  (.exit 0)))
  (.seq (.blk 1 (.seq (.par [(m18 30 0),
  (n18 31 30),
  (f18 32 5 31),
  (l18 33 1 32),
  (m18 34 7),
  (q18 35 (.ia 5 (.t 33) (.t 34))),
  (f18 36 0 35),
  (l18 37 1 36),
  (m18 38 5),
  (q18 39 (.bop .eql (.t 37) (.t 38))),
  (m18 40 39),
  (g18 41 40 true (.mv (.t 0))),
  (g18 42 40 true (.nck (.t 41))),
  (g18 43 40 true (.fa 5 (.t 42))),
  (g18 44 40 true (.ld false 1 (.t 43))),
  (g18 45 40 true (.mv (.t 7))),
  (g18 46 40 true (.ia 5 (.t 44) (.t 45))),
  (g18 47 40 true (.fa 1 (.t 46))),
  (g18 48 40 true (.ld false 1 (.t 47))),
  (g18 49 40 true (.mv (.t 6))),
  (g18 50 40 true (.bop .eql (.t 48) (.t 49))),
  (q18 51 (.pick (.t 40) (.t 50) (.c (.b false)))),
  (m18 52 51),
  (g18 53 52 true (.mv (.t 0))),
  (g18 54 52 true (.nck (.t 53))),
  (g18 55 52 true (.fa 5 (.t 54))),
  (g18 56 52 true (.ld false 1 (.t 55))),
  (g18 57 52 true (.mv (.t 7))),
  (g18 58 52 true (.ia 5 (.t 56) (.t 57))),
  (g18 59 52 true (.fa 2 (.t 58))),
  (g18 60 52 true (.ld false 1 (.t 59))),
  (g18 61 52 true (.fa 4 (.t 3))),
  (g18 62 52 true (.ld false 1 (.t 61))),
  (g18 63 52 true (.len 1 (.t 62))),
  (g18 64 52 true (.bop .eql (.t 60) (.t 63))),
  (q18 65 (.pick (.t 52) (.t 64) (.c (.b false))))] [0, 1, 3, 7, 0, 31, 63, 127, 0, 511, 1023, 2047, 4095, 8191, 16383, 2047, 65535, 131071, 262143, 2047, 1048575, 2097151, 4194303, 8388607, 16777215, 33554431, 67108863, 8388607, 268435455, 536870911, 1073741823, 8388607, 2155872255, 6450839551, 17179869183, 34359738367])
  (.cond (.t 65) (.seq (.reg [(f18 66 4 3),
  (l18 67 1 66),
  (q18 68 (.len 1 (.t 67))),
  (m18 69 7),
  (q18 70 (.bld [(.i .i8 0), (.i .i64 0), (.i .i64 0), (.i .i8 0), (.i .i64 0), (.s []), (.s []), .sln, (.i .i8 0), (.i .i64 0), (.s []), (.s []), .sln, .sln] [(0, 1, (.c (.i .i8 8))), (1, 1, (.t 68)), (2, 1, (.t 69))])),
  ⟨none, none, .st 14 (.t 4) (.t 70)⟩])
  .ret)
  .skip)))
  (.reg [(m18 28 7),
  (q18 29 (.bop .add (.t 28) (.c (.i .i64 1)))),
  (m18 7 29)]))))))
  (.seq (.par [(f18 71 4 3),
  (l18 72 1 71),
  (q18 73 (.len 1 (.t 72))),
  (f18 74 2 3),
  (l18 75 1 74),
  (q18 76 (.call 55 [(.t 75)])),
  (q18 77 (.bld [(.i .i8 0), (.i .i64 0), (.i .i64 0), (.i .i8 0), (.i .i64 0), (.s []), (.s []), .sln, (.i .i8 0), (.i .i64 0), (.s []), (.s []), .sln, .sln] [(0, 1, (.c (.i .i8 7))), (1, 1, (.t 73)), (3, 5, (.t 76))])),
  ⟨none, none, .st 14 (.t 4) (.t 77)⟩] [0, 1, 3, 0, 8, 24, 63, 127])
  .ret)))))⟩
def ir18_187 : XF := ⟨141, 2, [], (.seq (.reg [(q18 3 (.box 39 5 (.t 1)))])
  (.seq (.reg [(f18 7 0 3),
  (l18 8 1 7)])
  (.blk 0 (.seq (.reg [(q18 10 (.bop .eql (.t 8) (.c (.i .i8 5)))),
  (m18 9 10)])
  (.cond (.t 9) (.reg [(m18 11 0),
  (m18 12 0),
  (f18 13 2 3),
  (l18 14 1 13),
  (q18 15 (.call 180 [(.t 12), (.t 14)])),
  (q18 16 (.bld [(.i .i8 0), (.i .i64 0), (.i .i64 0), (.i .i8 0), (.i .i64 0), (.s []), (.s []), .sln, (.i .i8 0), (.i .i64 0), (.s []), (.s []), .sln, .sln] [(0, 1, (.c (.i .i8 1))), (1, 1, (.t 15))])),
  (q18 17 (.call 54 [(.t 11), (.t 16)]))])
  (.seq (.reg [(q18 19 (.bop .eql (.t 8) (.c (.i .i8 6)))),
  (m18 18 19)])
  (.cond (.t 18) (.reg [(m18 20 0),
  (f18 21 1 3),
  (l18 22 1 21),
  (q18 23 (.call 17 [(.t 22)])),
  (q18 24 (.bld [(.i .i8 0), (.i .i64 0), (.i .i64 0), (.i .i8 0), (.i .i64 0), (.s []), (.s []), .sln, (.i .i8 0), (.i .i64 0), (.s []), (.s []), .sln, .sln] [(0, 1, (.c (.i .i8 0))), (3, 5, (.t 23))])),
  (q18 25 (.call 54 [(.t 20), (.t 24)]))])
  (.seq (.reg [(q18 27 (.bop .eql (.t 8) (.c (.i .i8 7)))),
  (m18 26 27)])
  (.cond (.t 26) (.reg [(m18 28 0),
  (f18 29 2 3),
  (l18 30 1 29),
  (q18 31 (.call 55 [(.t 30)])),
  (q18 32 (.bld [(.i .i8 0), (.i .i64 0), (.i .i64 0), (.i .i8 0), (.i .i64 0), (.s []), (.s []), .sln, (.i .i8 0), (.i .i64 0), (.s []), (.s []), .sln, .sln] [(0, 1, (.c (.i .i8 0))), (3, 5, (.t 31))])),
  (q18 33 (.call 54 [(.t 28), (.t 32)]))])
  (.seq (.reg [(q18 35 (.bop .eql (.t 8) (.c (.i .i8 8)))),
  (m18 34 35)])
  (.cond (.t 34) (.reg [(m18 36 0),
  (q18 37 (.bld [(.i .i8 0), (.i .i64 0), (.s []), (.s []), .sln] [(0, 1, (.c (.i .i8 6)))])),
  (q18 38 (.bld [(.i .i8 0), (.i .i64 0), (.i .i64 0), (.i .i8 0), (.i .i64 0), (.s []), (.s []), .sln, (.i .i8 0), (.i .i64 0), (.s []), (.s []), .sln, .sln] [(0, 1, (.c (.i .i8 0))), (3, 5, (.t 37))])),
  (q18 39 (.call 54 [(.t 36), (.t 38)]))])
  (.seq (.reg [(q18 41 (.bop .eql (.t 8) (.c (.i .i8 17)))),
  (m18 40 41)])
  (.cond (.t 40) (.reg [(m18 42 0),
  (f18 43 2 3),
  (l18 44 1 43),
  (f18 45 3 3),
  (l18 46 1 45),
  (f18 47 1 3),
  (l18 48 1 47),
  (q18 49 (.bld [(.i .i8 0), (.i .i64 0), (.s []), (.s []), .sln] [(0, 1, (.c (.i .i8 3))), (2, 1, (.t 44)), (3, 1, (.t 46)), (1, 1, (.t 48))])),
  (q18 50 (.bld [(.i .i8 0), (.i .i64 0), (.i .i64 0), (.i .i8 0), (.i .i64 0), (.s []), (.s []), .sln, (.i .i8 0), (.i .i64 0), (.s []), (.s []), .sln, .sln] [(0, 1, (.c (.i .i8 0))), (3, 5, (.t 49))])),
  (q18 51 (.call 54 [(.t 42), (.t 50)]))])
  (.seq (.reg [(q18 53 (.bop .eql (.t 8) (.c (.i .i8 10)))),
  (m18 52 53)])
  (.cond (.t 52) (.seq (.reg [(m18 54 0),
  (f18 55 4 3),
  (l18 56 1 55),
  (q18 57 (.call 185 [(.t 54), (.t 56)]))])
  (.reg [(m18 58 0),
  (f18 59 4 3),
  (l18 60 1 59),
  (q18 61 (.len 1 (.t 60))),
  (q18 62 (.bld [(.i .i8 0), (.i .i64 0), (.i .i64 0), (.i .i8 0), (.i .i64 0), (.s []), (.s []), .sln, (.i .i8 0), (.i .i64 0), (.s []), (.s []), .sln, .sln] [(0, 1, (.c (.i .i8 4))), (1, 1, (.t 61))])),
  (q18 63 (.call 54 [(.t 58), (.t 62)]))]))
  (.seq (.reg [(q18 65 (.bop .eql (.t 8) (.c (.i .i8 9)))),
  (m18 64 65)])
  (.cond (.t 64) (.seq (.reg [(m18 66 0),
  (f18 67 4 3),
  (l18 68 1 67),
  (q18 69 (.call 185 [(.t 66), (.t 68)]))])
  (.reg [(m18 70 0),
  (q18 71 (.bld [(.i .i8 0), (.i .i64 0), (.i .i64 0), (.i .i8 0), (.i .i64 0), (.s []), (.s []), .sln, (.i .i8 0), (.i .i64 0), (.s []), (.s []), .sln, .sln] [(0, 1, (.c (.i .i8 5)))])),
  (q18 72 (.call 54 [(.t 70), (.t 71)]))]))
  (.seq (.reg [(q18 74 (.bop .eql (.t 8) (.c (.i .i8 11)))),
  (m18 73 74)])
  (.cond (.t 73) (.seq (.reg [(m18 75 0),
  (f18 76 4 3),
  (l18 77 1 76),
  (q18 78 (.call 185 [(.t 75), (.t 77)]))])
  (.reg [(m18 79 0),
  (f18 80 2 3),
  (l18 81 1 80),
  (q18 82 (.bld [(.i .i8 0), (.i .i64 0), (.s []), (.s []), .sln] [(0, 1, (.c (.i .i8 1))), (2, 1, (.t 81))])),
  (q18 83 (.bld [(.i .i8 0), (.i .i64 0), (.i .i64 0), (.i .i8 0), (.i .i64 0), (.s []), (.s []), .sln, (.i .i8 0), (.i .i64 0), (.s []), (.s []), .sln, .sln] [(0, 1, (.c (.i .i8 6))), (3, 5, (.t 82))])),
  (q18 84 (.call 54 [(.t 79), (.t 83)]))]))
  (.seq (.reg [(q18 86 (.bop .eql (.t 8) (.c (.i .i8 16)))),
  (m18 85 86)])
  (.cond (.t 85) (.seq (.reg [(m18 87 0),
  (f18 88 4 3),
  (l18 89 1 88),
  (q18 90 (.call 185 [(.t 87), (.t 89)]))])
  (.reg [(m18 91 0),
  (f18 92 4 3),
  (l18 93 1 92),
  (q18 94 (.len 1 (.t 93))),
  (q18 95 (.bop .sub (.t 94) (.c (.i .i64 1)))),
  (q18 96 (.bld [(.i .i8 0), (.i .i64 0), (.i .i64 0), (.i .i8 0), (.i .i64 0), (.s []), (.s []), .sln, (.i .i8 0), (.i .i64 0), (.s []), (.s []), .sln, .sln] [(0, 1, (.c (.i .i8 10))), (1, 1, (.t 95))])),
  (q18 97 (.call 54 [(.t 91), (.t 96)]))]))
  (.seq (.reg [(q18 99 (.bop .eql (.t 8) (.c (.i .i8 13)))),
  (m18 98 99)])
  (.cond (.t 98) (.seq (.reg [(m18 100 0),
  (f18 101 4 3),
  (l18 102 1 101),
  (q18 103 (.ia 5 (.t 102) (.c (.i .i64 1)))),
  (k18 104 5 103),
  (q18 105 (.call 144 [(.t 100), (.t 104), (.c (.b false))]))])
  (.seq (.reg [(m18 106 0),
  (q18 107 (.call 52 [(.t 106), (.c (.s []))])),
  (m18 4 107)])
  (.seq (.reg [(m18 108 0),
  (m18 109 4),
  (q18 110 (.bld [(.i .i8 0), (.i .i64 0), (.i .i64 0), (.i .i8 0), (.i .i64 0), (.s []), (.s []), .sln, (.i .i8 0), (.i .i64 0), (.s []), (.s []), .sln, .sln] [(0, 1, (.c (.i .i8 2))), (1, 1, (.t 109))])),
  (q18 111 (.call 54 [(.t 108), (.t 110)]))])
  (.seq (.reg [(m18 112 0),
  (m18 113 4),
  (q18 114 (.bld [(.i .i8 0), (.i .i64 0), (.i .i64 0), (.i .i8 0), (.i .i64 0), (.s []), (.s []), .sln, (.i .i8 0), (.i .i64 0), (.s []), (.s []), .sln, .sln] [(0, 1, (.c (.i .i8 1))), (1, 1, (.t 113))])),
  (q18 115 (.call 54 [(.t 112), (.t 114)]))])
  (.seq (.reg [(m18 116 0),
  (f18 117 4 3),
  (l18 118 1 117),
  (q18 119 (.ia 5 (.t 118) (.c (.i .i64 0)))),
  (k18 120 5 119),
  (q18 121 (.call 88 [(.t 116), (.t 120)])),
  (m18 5 121)])
  (.seq (.reg [(m18 122 0),
  (m18 123 4),
  (q18 124 (.bld [(.i .i8 0), (.i .i64 0), (.i .i64 0), (.i .i8 0), (.i .i64 0), (.s []), (.s []), .sln, (.i .i8 0), (.i .i64 0), (.s []), (.s []), .sln, .sln] [(0, 1, (.c (.i .i8 1))), (1, 1, (.t 123))])),
  (q18 125 (.call 54 [(.t 122), (.t 124)]))])
  (.seq (.reg [(m18 126 0),
  (q18 127 (.bld [(.i .i8 0), (.i .i64 0), (.i .i64 0), (.i .i8 0), (.i .i64 0), (.s []), (.s []), .sln, (.i .i8 0), (.i .i64 0), (.s []), (.s []), .sln, .sln] [(0, 1, (.c (.i .i8 12)))])),
  (q18 128 (.call 54 [(.t 126), (.t 127)])),
  (m18 6 128)])
  (.seq (.reg [(m18 129 0),
  (m18 130 5),
  (q18 131 (.bls 3 1 1 [(.i .i64 0)] [(0, 1, (.t 130))])),
  (q18 132 (.call 91 [(.t 129), (.t 131)]))])
  (.seq (.reg [(m18 133 0),
  (q18 134 (.call 55 [(.c (.s [98, 97, 100, 109, 97, 116, 99, 104]))])),
  (q18 135 (.bld [(.i .i8 0), (.i .i64 0), (.i .i64 0), (.i .i8 0), (.i .i64 0), (.s []), (.s []), .sln, (.i .i8 0), (.i .i64 0), (.s []), (.s []), .sln, .sln] [(0, 1, (.c (.i .i8 15))), (3, 5, (.t 134)), (2, 1, (.c (.i .i64 1)))])),
  (q18 136 (.call 54 [(.t 133), (.t 135)]))])
  (.reg [(m18 137 0),
  (m18 138 6),
  (q18 139 (.bls 3 1 1 [(.i .i64 0)] [(0, 1, (.t 138))])),
  (q18 140 (.call 91 [(.t 137), (.t 139)]))]))))))))))
  .skip)))))))))))))))))))))))⟩
def ir18_188 : XF := ⟨19, 1, [(2, none)], (.seq (.reg [(q18 2 (.mv (.c (.i .i64 0))))])
  (.seq (.seq (.reg [(m18 4 0),
  (q18 5 (.len 0 (.t 4))),
  (q18 6 (.mv (.c (.i .i64 0))))])
  (.blk 0 (.loop (.seq (.reg [(q18 7 (.bop .lss (.t 6) (.t 5)))])
  (.seq (.cond (.t 7) .skip
  (.exit 0))
  (.seq (.blk 1 (.seq (.reg [(m18 8 6),
  (m18 3 8)])
  (.seq (.par [(m18 9 0),
  (m18 10 3),
  (q18 11 (.ixS (.t 9) (.t 10))),
  (q18 12 (.slcA 4 2 (.c (.p 0 0)) none none none)),
  (q18 13 (.call 147 [(.t 11), (.t 12)])),
  (q18 14 (.un .not (.t 13)))] [0, 0, 3, 0, 15, 31])
  (.cond (.t 14) (.seq (.reg [(m18 15 3),
  (m18 2 15)])
  .ret)
  .skip))))
  (.reg [(q18 16 (.bop .add (.t 6) (.c (.i .i64 1)))),
  (m18 6 16)])))))))
  (.seq (.reg [(m18 17 0),
  (q18 18 (.len 0 (.t 17))),
  (m18 2 18)])
  .ret)))⟩
def ir18_189 : XF := ⟨13, 2, [(4, none)], (.seq (.reg [(q18 4 (.mv (.c (.b false))))])
  (.seq (.reg [(m18 5 1),
  (m18 6 0),
  (n18 7 6),
  (f18 8 1 7),
  (l18 9 1 8),
  (q18 10 (.len 1 (.t 9))),
  (q18 11 (.bop .sub (.t 10) (.c (.i .i64 1)))),
  (q18 12 (.call 95 [(.t 5), (.t 11)])),
  (m18 4 12)])
  .ret))⟩
def ir18_190 : XF := ⟨8, 2, [(4, none)], (.seq (.reg [(q18 4 (.mv (.c (.b false))))])
  (.seq (.reg [(q18 5 (.bld [(.b false), (.b false), (.b false), (.b false), (.b false)] [])),
  (m18 6 1),
  (q18 7 (.call 191 [(.t 5), (.t 6)])),
  (m18 4 7)])
  .ret))⟩
def ir18_191 : XF := ⟨57, 2, [(4, none)], (.seq (.reg [(q18 2 (.box 269 5 (.t 0))),
  (q18 4 (.mv (.c (.b false))))])
  (.seq (.reg [(f18 5 0 2),
  (l18 6 1 5),
  (m18 7 6),
  (g18 8 7 false (.mv (.t 1))),
  (g18 9 7 false (.nck (.t 8))),
  (g18 10 7 false (.fa 1 (.t 9))),
  (g18 11 7 false (.ld false 1 (.t 10))),
  (g18 12 7 false (.bop .eql (.t 11) (.c (.i .i64 0)))),
  (q18 13 (.pick (.t 7) (.c (.b true)) (.t 12))),
  (m18 14 13),
  (g18 15 14 true (.fa 1 (.t 2))),
  (g18 16 14 true (.ld false 1 (.t 15))),
  (g18 17 14 true (.mv (.t 16))),
  (g18 18 17 false (.mv (.t 1))),
  (g18 19 17 false (.nck (.t 18))),
  (g18 20 17 false (.fa 2 (.t 19))),
  (g18 21 17 false (.ld false 1 (.t 20))),
  (g18 22 17 false (.bop .eql (.t 21) (.c (.i .i64 0)))),
  (g18 23 14 true (.pick (.t 17) (.c (.b true)) (.t 22))),
  (q18 24 (.pick (.t 14) (.t 23) (.c (.b false)))),
  (m18 25 24),
  (g18 26 25 true (.fa 2 (.t 2))),
  (g18 27 25 true (.ld false 1 (.t 26))),
  (g18 28 25 true (.mv (.t 27))),
  (g18 29 28 false (.mv (.t 1))),
  (g18 30 28 false (.nck (.t 29))),
  (g18 31 28 false (.fa 3 (.t 30))),
  (g18 32 28 false (.call 265 [(.t 31)])),
  (g18 33 25 true (.pick (.t 28) (.c (.b true)) (.t 32))),
  (q18 34 (.pick (.t 25) (.t 33) (.c (.b false)))),
  (m18 35 34),
  (g18 36 35 true (.fa 3 (.t 2))),
  (g18 37 35 true (.ld false 1 (.t 36))),
  (g18 38 35 true (.mv (.t 37))),
  (g18 39 38 false (.mv (.t 1))),
  (g18 40 38 false (.nck (.t 39))),
  (g18 41 38 false (.fa 8 (.t 40))),
  (g18 42 38 false (.call 266 [(.t 41)])),
  (g18 43 35 true (.pick (.t 38) (.c (.b true)) (.t 42))),
  (q18 44 (.pick (.t 35) (.t 43) (.c (.b false)))),
  (m18 45 44),
  (g18 46 45 true (.fa 4 (.t 2))),
  (g18 47 45 true (.ld false 1 (.t 46))),
  (g18 48 45 true (.mv (.t 47))),
  (g18 49 48 false (.mv (.t 1))),
  (g18 50 48 false (.nck (.t 49))),
  (g18 51 48 false (.fa 13 (.t 50))),
  (g18 52 48 false (.ld false 1 (.t 51))),
  (g18 53 48 false (.len 1 (.t 52))),
  (g18 54 48 false (.bop .eql (.t 53) (.c (.i .i64 0)))),
  (g18 55 45 true (.pick (.t 48) (.c (.b true)) (.t 54))),
  (q18 56 (.pick (.t 45) (.t 55) (.c (.b false)))),
  (m18 4 56)])
  .ret))⟩
def ir18_192 : XF := ⟨15, 2, [(4, none)], (.seq (.reg [(q18 4 (.mv (.c (.b false))))])
  (.seq (.reg [(q18 5 (.bld [(.b false), (.b false), (.b false), (.b false), (.b false)] [(0, 1, (.c (.b true)))])),
  (m18 6 1),
  (q18 7 (.call 191 [(.t 5), (.t 6)])),
  (m18 8 7),
  (g18 9 8 true (.mv (.t 1))),
  (g18 10 8 true (.nck (.t 9))),
  (g18 11 8 true (.fa 1 (.t 10))),
  (g18 12 8 true (.ld false 1 (.t 11))),
  (g18 13 8 true (.call 95 [(.t 12), (.c (.i .i64 31))])),
  (q18 14 (.pick (.t 8) (.t 13) (.c (.b false)))),
  (m18 4 14)])
  .ret))⟩
def ir18_194 : XF := ⟨39, 2, [(4, none)], (.seq (.reg [(q18 4 (.mv (.c (.b false))))])
  (.seq (.par [(q18 5 (.bld [(.b false), (.b false), (.b false), (.b false), (.b false)] [(0, 1, (.c (.b true))), (1, 1, (.c (.b true)))])),
  (m18 6 1),
  (q18 7 (.call 191 [(.t 5), (.t 6)])),
  (m18 8 7),
  (g18 9 8 true (.mv (.t 1))),
  (g18 10 8 true (.nck (.t 9))),
  (g18 11 8 true (.fa 2 (.t 10))),
  (g18 12 8 true (.ld false 1 (.t 11))),
  (g18 13 8 true (.mv (.t 0))),
  (g18 14 8 true (.nck (.t 13))),
  (g18 15 8 true (.fa 0 (.t 14))),
  (g18 16 8 true (.ld false 1 (.t 15))),
  (g18 17 8 true (.len 1 (.t 16))),
  (g18 18 8 true (.bop .sub (.t 17) (.c (.i .i64 1)))),
  (g18 19 8 true (.call 95 [(.t 12), (.t 18)])),
  (q18 20 (.pick (.t 8) (.t 19) (.c (.b false)))),
  (m18 21 20),
  (g18 22 21 true (.mv (.t 0))),
  (g18 23 21 true (.nck (.t 22))),
  (g18 24 21 true (.fa 0 (.t 23))),
  (g18 25 21 true (.ld false 1 (.t 24))),
  (g18 26 21 true (.mv (.t 1))),
  (g18 27 21 true (.nck (.t 26))),
  (g18 28 21 true (.fa 2 (.t 27))),
  (g18 29 21 true (.ld false 1 (.t 28))),
  (g18 30 21 true (.ia 5 (.t 25) (.t 29))),
  (g18 31 21 true (.fa 2 (.t 30))),
  (g18 32 21 true (.ld false 1 (.t 31))),
  (g18 33 21 true (.mv (.t 1))),
  (g18 34 21 true (.nck (.t 33))),
  (g18 35 21 true (.fa 1 (.t 34))),
  (g18 36 21 true (.ld false 1 (.t 35))),
  (g18 37 21 true (.bop .eql (.t 32) (.t 36))),
  (q18 38 (.pick (.t 21) (.t 37) (.c (.b false)))),
  (m18 4 38)] [0, 0, 3, 7, 15, 31, 63, 127, 15, 271, 783, 1807, 3855, 7951, 16383, 32767, 65535, 131071, 262143, 524287, 1048575, 131071, 2228223, 6422527, 14811135, 33554431, 67108863, 134217727, 131071, 268566527, 805437439, 1879179263, 4294967295, 8589934591, 17179869183])
  .ret))⟩
def ir18_195 : XF := ⟨16, 2, [(4, none)], (.seq (.reg [(q18 4 (.mv (.c (.b false))))])
  (.seq (.reg [(q18 5 (.bld [(.b false), (.b false), (.b false), (.b false), (.b false)] [(2, 1, (.c (.b true)))])),
  (m18 6 1),
  (q18 7 (.call 191 [(.t 5), (.t 6)])),
  (m18 8 7),
  (g18 9 8 true (.mv (.t 1))),
  (g18 10 8 true (.nck (.t 9))),
  (g18 11 8 true (.fa 3 (.t 10))),
  (g18 12 8 true (.ld true 5 (.t 11))),
  (g18 13 8 true (.call 62 [(.t 12)])),
  (g18 14 8 true (.bop .eql (.t 13) (.c (.i .i64 0)))),
  (q18 15 (.pick (.t 8) (.t 14) (.c (.b false)))),
  (m18 4 15)])
  .ret))⟩
def ir18_197 : XF := ⟨34, 2, [(4, none)], (.seq (.reg [(q18 4 (.mv (.c (.b false))))])
  (.seq (.reg [(m18 10 1),
  (n18 11 10),
  (f18 12 3 11),
  (q18 13 (.call 198 [(.t 12)])),
  (m18 9 13),
  (q18 14 (.ex (.t 9) 0)),
  (q18 15 (.ex (.t 9) 1)),
  (m18 5 14),
  (m18 6 15)])
  (.seq (.reg [(m18 17 5),
  (q18 18 (.call 199 [(.t 17), (.c (.i .i64 0))])),
  (m18 16 18),
  (q18 19 (.ex (.t 16) 0)),
  (q18 20 (.ex (.t 16) 1)),
  (m18 7 19),
  (m18 8 20)])
  (.seq (.reg [(q18 21 (.bld [(.b false), (.b false), (.b false), (.b false), (.b false)] [(2, 1, (.c (.b true)))])),
  (m18 22 1),
  (q18 23 (.call 191 [(.t 21), (.t 22)])),
  (m18 24 23),
  (g18 25 24 true (.mv (.t 6))),
  (q18 26 (.pick (.t 24) (.t 25) (.c (.b false)))),
  (m18 27 26),
  (g18 28 27 true (.mv (.t 8))),
  (g18 29 27 true (.mv (.t 28))),
  (g18 30 29 false (.mv (.t 5))),
  (g18 31 29 false (.call 200 [(.t 30)])),
  (g18 32 27 true (.pick (.t 29) (.c (.b true)) (.t 31))),
  (q18 33 (.pick (.t 27) (.t 32) (.c (.b false)))),
  (m18 4 33)])
  .ret))))⟩
def ir18_198 : XF := ⟨35, 1, [(2, none), (3, none)], (.seq (.reg [(q18 2 (.mv (.c (.s [])))),
  (q18 3 (.mv (.c (.b false))))])
  (.seq (.par [(m18 4 0),
  (n18 5 4),
  (f18 6 2 5),
  (l18 7 1 6),
  (m18 8 0),
  (n18 9 8),
  (f18 10 0 9),
  (l18 11 1 10),
  (q18 12 (.bop .eql (.t 11) (.c (.i .i8 1)))),
  (m18 13 12),
  (g18 14 13 true (.mv (.t 0))),
  (g18 15 13 true (.nck (.t 14))),
  (g18 16 13 true (.fa 1 (.t 15))),
  (g18 17 13 true (.ld false 1 (.t 16))),
  (g18 18 13 true (.bop .eql (.t 17) (.c (.i .i64 0)))),
  (q18 19 (.pick (.t 13) (.t 18) (.c (.b false)))),
  (m18 20 19),
  (g18 21 20 true (.mv (.t 0))),
  (g18 22 20 true (.nck (.t 21))),
  (g18 23 20 true (.fa 3 (.t 22))),
  (g18 24 20 true (.ld false 1 (.t 23))),
  (g18 25 20 true (.bop .eql (.t 24) (.c (.s [])))),
  (q18 26 (.pick (.t 20) (.t 25) (.c (.b false)))),
  (m18 27 26),
  (g18 28 27 true (.mv (.t 0))),
  (g18 29 27 true (.nck (.t 28))),
  (g18 30 27 true (.fa 4 (.t 29))),
  (g18 31 27 true (.ld false 1 (.t 30))),
  (g18 32 27 true (.len 1 (.t 31))),
  (g18 33 27 true (.bop .eql (.t 32) (.c (.i .i64 0)))),
  (q18 34 (.pick (.t 27) (.t 33) (.c (.b false)))),
  (m18 2 7),
  (m18 3 34)] [0, 1, 3, 7, 0, 16, 48, 112, 240, 496, 1008, 2032, 4080, 8176, 16368, 32752, 65520, 131056, 262128, 524272, 1048560, 2097136, 4194288, 8388592, 16777200, 33554416, 67108848, 134217712, 268435440, 536870896, 1073741808, 16777215, 4294967295])
  .ret))⟩
def ir18_199 : XF := ⟨30, 2, [(4, none), (5, none)], (.seq (.reg [(q18 4 (.mv (.c (.b false)))),
  (q18 5 (.mv (.c (.b false))))])
  (.seq (.reg [(q18 9 (.mkm)),
  (q18 10 (.bld [(.b false), (.b false), (.b false)] [(1, 1, (.c (.b true)))])),
  ⟨none, none, .ins .s (.t 9) (.c (.s [61, 58, 61])) (.t 10)⟩,
  (q18 11 (.bld [(.b false), (.b false), (.b false)] [(0, 1, (.c (.b true))), (2, 1, (.c (.b true)))])),
  ⟨none, none, .ins .s (.t 9) (.c (.s [61, 47, 61])) (.t 11)⟩,
  (q18 12 (.bld [(.b false), (.b false), (.b false)] [(0, 1, (.c (.b true)))])),
  ⟨none, none, .ins .s (.t 9) (.c (.s [60])) (.t 12)⟩,
  (q18 13 (.bld [(.b false), (.b false), (.b false)] [(0, 1, (.c (.b true))), (1, 1, (.c (.b true)))])),
  ⟨none, none, .ins .s (.t 9) (.c (.s [61, 60])) (.t 13)⟩,
  (q18 14 (.bld [(.b false), (.b false), (.b false)] [(2, 1, (.c (.b true)))])),
  ⟨none, none, .ins .s (.t 9) (.c (.s [62])) (.t 14)⟩,
  (q18 15 (.bld [(.b false), (.b false), (.b false)] [(1, 1, (.c (.b true))), (2, 1, (.c (.b true)))])),
  ⟨none, none, .ins .s (.t 9) (.c (.s [62, 61])) (.t 15)⟩,
  (m18 16 9),
  (m18 6 16)])
  (.seq (.reg [(m18 18 6),
  (m18 19 0),
  (q18 20 (.lk .s true (.ag [(.b false), (.b false), (.b false)]) (.t 18) (.t 19))),
  (m18 17 20),
  (q18 21 (.ex (.t 17) 0)),
  (q18 22 (.ex (.t 17) 1)),
  (q18 7 (.box 301 3 (.c (.ag [(.b false), (.b false), (.b false)])))),
  ⟨none, none, .st 3 (.t 7) (.t 21)⟩,
  (m18 8 22)])
  (.seq (.reg [(m18 23 1),
  (q18 24 (.mm true (.t 23) (.c (.i .i64 (-1))))),
  (q18 25 (.mm false (.t 24) (.c (.i .i64 1)))),
  (q18 26 (.bop .add (.t 25) (.c (.i .i64 1)))),
  (q18 27 (.iaA 3 1 (.t 7) (.t 26))),
  (l18 28 1 27),
  (m18 29 8),
  (m18 4 28),
  (m18 5 29)])
  .ret))))⟩
def ir18_200 : XF := ⟨12, 1, [(2, none)], (.seq (.reg [(q18 2 (.mv (.c (.b false))))])
  (.seq (.reg [(q18 6 (.call 267 [])),
  (m18 7 0),
  (q18 8 (.lk .s true .fn (.t 6) (.t 7))),
  (m18 5 8),
  (q18 9 (.ex (.t 5) 0)),
  (q18 10 (.ex (.t 5) 1)),
  (m18 3 9),
  (m18 4 10)])
  (.seq (.reg [(m18 11 4),
  (m18 2 11)])
  .ret)))⟩
def ir18_204 : XF := ⟨39, 3, [(5, none)], (.seq (.reg [(q18 5 (.mv (.c (.b false))))])
  (.seq (.par [(q18 6 (.bld [(.b false), (.b false), (.b false), (.b false), (.b false)] [(0, 1, (.c (.b true))), (1, 1, (.c (.b true))), (3, 1, (.c (.b true)))])),
  (m18 7 1),
  (q18 8 (.call 191 [(.t 6), (.t 7)])),
  (m18 9 8),
  (g18 10 9 true (.ld false 1 (.t 2))),
  (g18 11 9 true (.mv (.t 0))),
  (g18 12 9 true (.mv (.t 1))),
  (g18 13 9 true (.nck (.t 12))),
  (g18 14 9 true (.fa 1 (.t 13))),
  (g18 15 9 true (.ld false 1 (.t 14))),
  (g18 16 9 true (.callv (.t 10) [(.t 11), (.t 15)])),
  (q18 17 (.pick (.t 9) (.t 16) (.c (.b false)))),
  (m18 18 17),
  (g18 19 18 true (.mv (.t 1))),
  (g18 20 18 true (.nck (.t 19))),
  (g18 21 18 true (.fa 2 (.t 20))),
  (g18 22 18 true (.ld false 1 (.t 21))),
  (g18 23 18 true (.call 95 [(.t 22), (.c (.i .i64 32))])),
  (q18 24 (.pick (.t 18) (.t 23) (.c (.b false)))),
  (m18 25 24),
  (g18 26 25 true (.mv (.t 1))),
  (g18 27 25 true (.nck (.t 26))),
  (g18 28 25 true (.fa 8 (.t 27))),
  (g18 29 25 true (.ld true 5 (.t 28))),
  (g18 30 25 true (.call 205 [(.t 29)])),
  (q18 31 (.pick (.t 25) (.t 30) (.c (.b false)))),
  (m18 32 31),
  (g18 33 32 true (.mv (.t 1))),
  (g18 34 32 true (.nck (.t 33))),
  (g18 35 32 true (.fa 8 (.t 34))),
  (g18 36 32 true (.ld true 5 (.t 35))),
  (g18 37 32 true (.call 206 [(.t 36)])),
  (q18 38 (.pick (.t 32) (.t 37) (.c (.b false)))),
  (m18 5 38)] [0, 0, 3, 7, 15, 15, 15, 79, 207, 463, 1023, 2047, 4095, 8191, 16383, 32767, 65535, 131071, 262143, 524287, 1048575, 2097151, 4194303, 8388607, 16777215, 33554431, 67108863, 134217727, 268435455, 536870911, 1073741823, 2147483647, 4294967295, 8589934591])
  .ret))⟩
def ir18_205 : XF := ⟨8, 1, [(2, none)], (.seq (.reg [(q18 1 (.box 39 5 (.t 0))),
  (q18 2 (.mv (.c (.b false))))])
  (.seq (.reg [(q18 3 (.call 269 [(.t 1)])),
  (q18 4 (.call 270 [(.t 3)])),
  (m18 5 4),
  (g18 6 5 true (.call 271 [(.t 1)])),
  (q18 7 (.pick (.t 5) (.t 6) (.c (.b false)))),
  (m18 2 7)])
  .ret))⟩
def ir18_206 : XF := ⟨7, 1, [(2, none)], (.seq (.reg [(q18 1 (.box 39 5 (.t 0))),
  (q18 2 (.mv (.c (.b false))))])
  (.seq (.reg [(k18 3 5 1),
  (q18 4 (.call 273 [(.t 3)])),
  (q18 5 (.call 272 [(.t 4), (.c (.f (.func 274) [] []))])),
  (q18 6 (.un .not (.t 5))),
  (m18 2 6)])
  .ret))⟩
def ir18_209 : XF := ⟨23, 2, [(4, none)], (.seq (.reg [(q18 4 (.mv (.c (.b false))))])
  (.seq (.reg [(q18 5 (.bld [(.b false), (.b false), (.b false), (.b false), (.b false)] [(1, 1, (.c (.b true))), (2, 1, (.c (.b true)))])),
  (m18 6 1),
  (q18 7 (.call 191 [(.t 5), (.t 6)])),
  (m18 8 7),
  (g18 9 8 true (.mv (.t 1))),
  (g18 10 8 true (.nck (.t 9))),
  (g18 11 8 true (.fa 2 (.t 10))),
  (g18 12 8 true (.ld false 1 (.t 11))),
  (g18 13 8 true (.call 95 [(.t 12), (.c (.i .i64 2))])),
  (q18 14 (.pick (.t 8) (.t 13) (.c (.b false)))),
  (m18 15 14),
  (g18 16 15 true (.mv (.t 1))),
  (g18 17 15 true (.nck (.t 16))),
  (g18 18 15 true (.fa 3 (.t 17))),
  (g18 19 15 true (.ld true 5 (.t 18))),
  (g18 20 15 true (.call 62 [(.t 19)])),
  (g18 21 15 true (.bop .eql (.t 20) (.c (.i .i64 0)))),
  (q18 22 (.pick (.t 15) (.t 21) (.c (.b false)))),
  (m18 4 22)])
  .ret))⟩
def ir18_211 : XF := ⟨9, 2, [(4, none)], (.seq (.reg [(q18 4 (.mv (.c (.b false))))])
  (.seq (.reg [(m18 5 0),
  (m18 6 1),
  (q18 7 (.call 275 [(.t 5), (.t 6)])),
  (q18 8 (.bop .geq (.t 7) (.c (.i .i64 0)))),
  (m18 4 8)])
  .ret))⟩
def ir18_214 : XF := ⟨49, 5, [(9, none)], (.seq (.reg [(q18 9 (.mv (.c (.b false))))])
  (.seq (.reg [(m18 10 0),
  (m18 11 10),
  (g18 12 11 false (.ld false 1 (.t 4))),
  (g18 13 11 false (.nck (.t 12))),
  (g18 14 11 false (.fa 1 (.t 13))),
  (g18 15 11 false (.ld false 1 (.t 14))),
  (g18 16 11 false (.bop .eql (.t 15) (.c (.i .i64 0)))),
  (q18 17 (.pick (.t 11) (.c (.b true)) (.t 16))),
  (m18 18 17),
  (g18 19 18 true (.mv (.t 1))),
  (g18 20 18 true (.mv (.t 19))),
  (g18 21 20 false (.ld false 1 (.t 4))),
  (g18 22 20 false (.nck (.t 21))),
  (g18 23 20 false (.fa 2 (.t 22))),
  (g18 24 20 false (.ld false 1 (.t 23))),
  (g18 25 20 false (.bop .eql (.t 24) (.c (.s [])))),
  (g18 26 18 true (.pick (.t 20) (.c (.b true)) (.t 25))),
  (q18 27 (.pick (.t 18) (.t 26) (.c (.b false)))),
  (m18 28 27),
  (g18 29 28 true (.mv (.t 2))),
  (g18 30 28 true (.mv (.t 29))),
  (g18 31 30 false (.ld false 1 (.t 4))),
  (g18 32 30 false (.nck (.t 31))),
  (g18 33 30 false (.fa 3 (.t 32))),
  (g18 34 30 false (.ld false 1 (.t 33))),
  (g18 35 30 false (.bop .eql (.t 34) (.c (.s [])))),
  (g18 36 28 true (.pick (.t 30) (.c (.b true)) (.t 35))),
  (q18 37 (.pick (.t 28) (.t 36) (.c (.b false)))),
  (m18 38 37),
  (g18 39 38 true (.mv (.t 3))),
  (g18 40 38 true (.mv (.t 39))),
  (g18 41 40 false (.ld false 1 (.t 4))),
  (g18 42 40 false (.nck (.t 41))),
  (g18 43 40 false (.fa 4 (.t 42))),
  (g18 44 40 false (.ld false 1 (.t 43))),
  (g18 45 40 false (.len 1 (.t 44))),
  (g18 46 40 false (.bop .eql (.t 45) (.c (.i .i64 0)))),
  (g18 47 38 true (.pick (.t 40) (.c (.b true)) (.t 46))),
  (q18 48 (.pick (.t 38) (.t 47) (.c (.b false)))),
  (m18 9 48)])
  .ret))⟩
def ir18_216 : XF := ⟨16, 2, [(4, none)], (.seq (.reg [(q18 2 (.box 27 5 (.t 0))),
  (q18 3 (.box 27 5 (.t 1))),
  (q18 4 (.mv (.c (.i .i64 0))))])
  (.seq (.seq (.reg [(k18 5 5 2),
  (q18 6 (.call 62 [(.t 5)])),
  (q18 7 (.bop .neq (.t 6) (.c (.i .i64 0)))),
  (m18 8 7),
  (g18 9 8 false (.ld true 5 (.t 3))),
  (g18 10 8 false (.call 62 [(.t 9)])),
  (g18 11 8 false (.bop .neq (.t 10) (.c (.i .i64 0)))),
  (q18 12 (.pick (.t 8) (.c (.b true)) (.t 11)))])
  (.cond (.t 12) (.seq (.reg [(q18 4 (.mv (.c (.i .i64 0))))])
  .ret)
  .skip))
  (.seq (.reg [(k18 13 5 2),
  (k18 14 5 3),
  (q18 15 (.call 278 [(.t 13), (.t 14)])),
  (m18 4 15)])
  .ret)))⟩
def ir18_217 : XF := ⟨46, 3, [(6, none), (7, none)], (.seq (.reg [(q18 6 (.mv (.c (.i .i64 0)))),
  (q18 7 (.mv (.c (.i .i64 0))))])
  (.seq (.reg [(q18 13 (.call 267 [])),
  (m18 14 0),
  (q18 15 (.lk .s true .fn (.t 13) (.t 14))),
  (m18 12 15),
  (q18 16 (.ex (.t 12) 0)),
  (q18 17 (.ex (.t 12) 1)),
  (m18 8 16),
  (m18 9 17)])
  (.seq (.seq (.reg [(m18 18 9),
  (q18 19 (.un .not (.t 18))),
  (m18 20 19),
  (g18 21 20 false (.mv (.t 1))),
  (g18 22 20 false (.call 151 [(.t 21)])),
  (g18 23 20 false (.un .not (.t 22))),
  (q18 24 (.pick (.t 20) (.c (.b true)) (.t 23))),
  (m18 25 24),
  (g18 26 25 false (.mv (.t 2))),
  (g18 27 25 false (.call 151 [(.t 26)])),
  (g18 28 25 false (.un .not (.t 27))),
  (q18 29 (.pick (.t 25) (.c (.b true)) (.t 28)))])
  (.cond (.t 29) (.seq (.reg [(q18 6 (.mv (.c (.i .i64 0)))),
  (q18 7 (.mv (.c (.i .i64 2))))])
  .ret)
  .skip))
  (.seq (.reg [(m18 31 8),
  (m18 32 1),
  (m18 33 2),
  (q18 34 (.callv (.t 31) [(.t 32), (.t 33)])),
  (m18 30 34),
  (q18 35 (.ex (.t 30) 0)),
  (q18 36 (.ex (.t 30) 1)),
  (m18 10 35),
  (m18 11 36)])
  (.seq (.blk 0 (.seq (.reg [(m18 38 11),
  (q18 39 (.bop .neq (.t 38) (.c (.i .i64 0)))),
  (m18 37 39)])
  (.cond (.t 37) (.seq (.reg [(m18 40 11),
  (q18 6 (.mv (.c (.i .i64 0)))),
  (m18 7 40)])
  .ret)
  (.seq (.reg [(m18 42 10),
  (q18 43 (.call 151 [(.t 42)])),
  (q18 44 (.un .not (.t 43))),
  (m18 41 44)])
  (.cond (.t 41) (.seq (.reg [(q18 6 (.mv (.c (.i .i64 0)))),
  (q18 7 (.mv (.c (.i .i64 11))))])
  .ret)
  .skip)))))
  (.seq (.reg [(m18 45 10),
  (m18 6 45),
  (q18 7 (.mv (.c (.i .i64 0))))])
  .ret))))))⟩
def ir18_239 : XF := ⟨13, 1, [(2, none)], (.seq (.reg [(q18 2 (.mv (.c (.b false))))])
  (.seq (.reg [(q18 3 (.mv (.c (.f (.func 282) [] []))))])
  (.seq (.reg [(m18 4 0),
  (q18 5 (.len 1 (.t 4))),
  (q18 6 (.bop .leq (.t 5) (.c (.i .i64 64)))),
  (m18 7 6),
  (g18 8 7 true (.mv (.t 0))),
  (g18 9 7 true (.mv (.t 3))),
  (g18 10 7 true (.call 284 [(.t 8), (.t 9)])),
  (g18 11 7 true (.un .not (.t 10))),
  (q18 12 (.pick (.t 7) (.t 11) (.c (.b false)))),
  (m18 2 12)])
  .ret)))⟩
def ir18_240 : XF := ⟨25, 1, [(2, none), (3, none)], (.seq (.reg [(q18 2 (.mv (.c (.i .i64 0)))),
  (q18 3 (.mv (.c (.b false))))])
  (.seq (.reg [(m18 7 0),
  (q18 8 (.call 286 [(.t 7), (.c (.s [86]))])),
  (q18 9 (.call 285 [(.t 8)])),
  (m18 6 9),
  (q18 10 (.ex (.t 6) 0)),
  (q18 11 (.ex (.t 6) 1)),
  (m18 4 10),
  (m18 5 11)])
  (.seq (.seq (.reg [(m18 12 5),
  (q18 13 (.eq 4 true true (.t 12) (.c .ifn))),
  (m18 14 13),
  (g18 15 14 false (.mv (.t 4))),
  (g18 16 14 false (.call 20 [(.t 15)])),
  (g18 17 14 false (.mv (.t 0))),
  (g18 18 14 false (.bop .neq (.t 16) (.t 17))),
  (q18 19 (.pick (.t 14) (.c (.b true)) (.t 18))),
  (m18 20 19),
  (g18 21 20 false (.mv (.t 0))),
  (g18 22 20 false (.bop .eql (.t 21) (.c (.s [])))),
  (q18 23 (.pick (.t 20) (.c (.b true)) (.t 22)))])
  (.cond (.t 23) (.seq (.reg [(q18 2 (.mv (.c (.i .i64 0)))),
  (q18 3 (.mv (.c (.b false))))])
  .ret)
  .skip))
  (.seq (.reg [(m18 24 4),
  (m18 2 24),
  (q18 3 (.mv (.c (.b true))))])
  .ret))))⟩
def ir18_242 : XF := ⟨56, 3, [(6, none), (7, none), (8, none)], (.seq (.reg [(q18 6 (.mv (.c .sln))),
  (q18 7 (.mv (.c (.b false)))),
  (q18 8 (.mv (.c (.i .i64 0))))])
  (.seq (.reg [(m18 13 0),
  (q18 14 (.len 1 (.t 13))),
  (m18 15 1),
  (q18 16 (.len 1 (.t 15))),
  (q18 17 (.bop .neq (.t 14) (.t 16))),
  (m18 18 17),
  (g18 19 18 false (.mv (.t 2))),
  (g18 20 18 false (.call 239 [(.t 19)])),
  (g18 21 18 false (.un .not (.t 20))),
  (q18 22 (.pick (.t 18) (.c (.b true)) (.t 21))),
  (m18 23 22),
  (g18 24 23 false (.mv (.t 0))),
  (g18 25 23 false (.call 211 [(.t 24), (.c (.f (.func 287) [] []))])),
  (q18 26 (.pick (.t 23) (.c (.b true)) (.t 25))),
  (m18 9 26)])
  (.seq (.seq (.reg [(m18 27 9),
  (m18 28 27),
  (g18 29 28 false (.mv (.t 1))),
  (g18 30 28 false (.call 57 [(.t 29), (.c (.f (.func 288) [] []))])),
  (q18 31 (.pick (.t 28) (.c (.b true)) (.t 30)))])
  (.cond (.t 31) (.seq (.reg [(q18 6 (.mv (.c .sln))),
  (q18 7 (.mv (.c (.b false)))),
  (q18 8 (.mv (.c (.i .i64 2))))])
  .ret)
  .skip))
  (.seq (.reg [(m18 32 2),
  (m18 10 32),
  (q18 11 (.mv (.c (.b true))))])
  (.seq (.seq (.reg [(m18 33 0),
  (q18 34 (.len 1 (.t 33))),
  (q18 35 (.mv (.c (.i .i64 0))))])
  (.blk 0 (.loop (.seq (.reg [(q18 36 (.bop .lss (.t 35) (.t 34)))])
  (.seq (.cond (.t 36) .skip
  (.exit 0))
  (.seq (.blk 1 (.seq (.reg [(m18 37 35),
  (m18 12 37)])
  (.seq (.par [(m18 39 0),
  (m18 40 12),
  (q18 41 (.ia 5 (.t 39) (.t 40))),
  (k18 42 5 41),
  (m18 43 1),
  (m18 44 12),
  (q18 45 (.ia 5 (.t 43) (.t 44))),
  (k18 46 5 45),
  (m18 47 10),
  (q18 48 (.call 289 [(.t 42), (.t 46), (.t 47)])),
  (m18 38 48),
  (q18 49 (.ex (.t 38) 0)),
  (q18 50 (.ex (.t 38) 1)),
  (m18 10 49),
  (m18 11 50)] [0, 0, 3, 7, 0, 0, 48, 112, 0, 511, 1023, 2047, 2047, 4095, 16383])
  (.seq (.reg [(m18 51 11),
  (q18 52 (.un .not (.t 51)))])
  (.cond (.t 52) (.seq (.reg [(m18 53 2),
  (m18 6 53),
  (q18 7 (.mv (.c (.b false)))),
  (q18 8 (.mv (.c (.i .i64 0))))])
  .ret)
  .skip)))))
  (.reg [(q18 54 (.bop .add (.t 35) (.c (.i .i64 1)))),
  (m18 35 54)])))))))
  (.seq (.reg [(m18 55 10),
  (m18 6 55),
  (q18 7 (.mv (.c (.b true)))),
  (q18 8 (.mv (.c (.i .i64 0))))])
  .ret))))))⟩
def ir18_253 : XF := ⟨7, 1, [(2, none)], (.seq (.reg [(q18 2 (.mv (.c .sln)))])
  (.seq (.reg [(m18 3 0),
  (q18 4 (.call 77 [(.t 3), (.c (.s [40]))]))])
  (.seq (.reg [(m18 5 0),
  (q18 6 (.call 78 [(.t 5), (.c (.i .i64 2)), (.c (.s [41])), (.c (.i .i64 8))])),
  (m18 2 6)])
  .ret)))⟩
def ir18_254 : XF := ⟨48, 2, [(4, none)], (.seq (.reg [(q18 4 (.mv (.c (.i .i64 0))))])
  (.seq (.seq (.reg [(m18 6 0),
  (q18 7 (.call 37 [(.t 6)])),
  (q18 8 (.un .not (.t 7)))])
  (.cond (.t 8) (.seq (.reg [(q18 4 (.mv (.c (.i .i64 0))))])
  .ret)
  .skip))
  (.seq (.seq (.reg [(m18 9 0),
  (q18 10 (.call 44 [(.t 9), (.c (.i .i8 2))])),
  (q18 11 (.un .not (.t 10)))])
  (.cond (.t 11) (.seq (.reg [(m18 12 0),
  (q18 13 (.call 38 [(.t 12)]))])
  (.seq (.reg [(q18 4 (.mv (.c (.i .i64 0))))])
  .ret))
  .skip))
  (.seq (.par [(m18 14 0),
  (n18 15 14),
  (f18 16 0 15),
  (l18 17 1 16),
  (m18 18 0),
  (n18 19 18),
  (f18 20 1 19),
  (l18 21 1 20),
  (q18 22 (.ia 4 (.t 17) (.t 21))),
  (k18 23 4 22),
  (q18 5 (.box 150 4 (.c (.ag [(.i .i8 0), (.i .i64 0), (.s []), (.i .i64 0)])))),
  ⟨none, none, .st 4 (.t 5) (.t 23)⟩] [0, 1, 3, 7, 0, 16, 48, 112, 255, 511, 0, 2047])
  (.seq (.seq (.reg [(f18 24 1 5),
  (l18 25 1 24),
  (q18 26 (.bop .gtr (.t 25) (.c (.i .i64 576460752303423487)))),
  (m18 27 26),
  (g18 28 27 true (.mv (.t 1))),
  (g18 29 27 true (.un .not (.t 28))),
  (q18 30 (.pick (.t 27) (.t 29) (.c (.b false))))])
  (.cond (.t 30) (.seq (.reg [(m18 31 0),
  (f18 32 3 5),
  (l18 33 1 32),
  (q18 34 (.call 40 [(.t 31), (.c (.i .i64 11)), (.t 33)]))])
  (.seq (.reg [(q18 4 (.mv (.c (.i .i64 0))))])
  .ret))
  .skip))
  (.seq (.reg [(m18 35 0),
  (n18 36 35),
  (f18 37 1 36),
  (l18 38 1 37),
  (q18 39 (.bop .add (.t 38) (.c (.i .i64 1)))),
  (n18 40 35),
  (f18 41 1 40),
  ⟨none, none, .st 1 (.t 41) (.t 39)⟩])
  (.seq (.seq (.reg [(m18 42 1)])
  (.cond (.t 42) (.seq (.reg [(f18 43 1 5),
  (l18 44 1 43),
  (q18 45 (.un .neg (.t 44))),
  (m18 4 45)])
  .ret)
  .skip))
  (.seq (.reg [(f18 46 1 5),
  (l18 47 1 46),
  (m18 4 47)])
  .ret))))))))⟩
def ir18_255 : XF := ⟨27, 2, [(4, some (true, 5))], (.seq (.reg [(q18 4 (.box 39 5 (.c (.ag [(.i .i8 0), (.i .i64 0), (.s []), (.s []), .sln]))))])
  (.seq (.seq (.reg [(m18 6 0),
  (q18 7 (.call 41 [(.t 6), (.c (.s [40]))]))])
  (.cond (.t 7) (.seq (.reg [(m18 8 1),
  (m18 9 0),
  (q18 10 (.call 253 [(.t 9)])),
  (q18 11 (.bld [(.i .i8 0), (.i .i64 0), (.s []), (.s []), .sln] [(0, 1, (.c (.i .i8 14))), (2, 1, (.t 8)), (4, 1, (.t 10))])),
  ⟨none, none, .st 5 (.t 4) (.t 11)⟩])
  .ret)
  .skip))
  (.seq (.seq (.reg [(m18 12 0),
  (q18 13 (.call 80 [(.t 12), (.c (.s [58]))])),
  (q18 14 (.un .not (.t 13)))])
  (.cond (.t 14) (.seq (.reg [(m18 15 1),
  (q18 16 (.bld [(.i .i8 0), (.i .i64 0), (.s []), (.s []), .sln] [(0, 1, (.c (.i .i8 7))), (2, 1, (.t 15))])),
  ⟨none, none, .st 5 (.t 4) (.t 16)⟩])
  .ret)
  .skip))
  (.seq (.reg [(m18 17 1),
  (m18 18 0),
  (q18 19 (.call 42 [(.t 18)])),
  (q18 20 (.bld [(.i .i8 0), (.i .i64 0), (.s []), (.s []), .sln] [(0, 1, (.c (.i .i8 15))), (2, 1, (.t 17)), (3, 1, (.t 19))])),
  (q18 5 (.box 39 5 (.c (.ag [(.i .i8 0), (.i .i64 0), (.s []), (.s []), .sln])))),
  ⟨none, none, .st 5 (.t 5) (.t 20)⟩])
  (.seq (.seq (.reg [(m18 21 0),
  (q18 22 (.call 37 [(.t 21)]))])
  (.cond (.t 22) (.reg [(m18 23 0),
  (q18 24 (.call 253 [(.t 23)])),
  (f18 25 4 5),
  ⟨none, none, .st 1 (.t 25) (.t 24)⟩])
  .skip))
  (.seq (.reg [(k18 26 5 5),
  ⟨none, none, .st 5 (.t 4) (.t 26)⟩])
  .ret))))))⟩
def ir18_257 : XF := ⟨68, 2, [(4, some (true, 5))], (.seq (.reg [(q18 4 (.box 39 5 (.c (.ag [(.i .i8 0), (.i .i64 0), (.s []), (.s []), .sln]))))])
  (.seq (.reg [(m18 9 0),
  (q18 10 (.call 77 [(.t 9), (.c (.s [40]))]))])
  (.seq (.reg [(m18 11 0),
  (m18 12 1),
  (q18 13 (.call 135 [(.t 11), (.t 12)])),
  (q18 5 (.box 39 5 (.c (.ag [(.i .i8 0), (.i .i64 0), (.s []), (.s []), .sln])))),
  ⟨none, none, .st 5 (.t 5) (.t 13)⟩])
  (.seq (.seq (.reg [(m18 14 0),
  (q18 15 (.call 37 [(.t 14)])),
  (m18 16 15),
  (g18 17 16 true (.mv (.t 1))),
  (g18 18 16 true (.bop .eql (.t 17) (.c (.i .i64 2)))),
  (q18 19 (.pick (.t 16) (.t 18) (.c (.b false)))),
  (m18 20 19),
  (g18 21 20 true (.mv (.t 0))),
  (g18 22 20 true (.call 41 [(.t 21), (.c (.s [61]))])),
  (q18 23 (.pick (.t 20) (.t 22) (.c (.b false))))])
  (.cond (.t 23) (.seq (.seq (.reg [(k18 24 5 5),
  (q18 25 (.call 296 [(.t 24)])),
  (q18 26 (.un .not (.t 25)))])
  (.cond (.t 26) (.seq (.reg [(m18 27 0),
  (m18 28 0),
  (q18 29 (.call 74 [(.t 28)])),
  (q18 30 (.call 40 [(.t 27), (.c (.i .i64 80)), (.t 29)]))])
  (.seq (.reg [(q18 31 (.bld [(.i .i8 0), (.i .i64 0), (.s []), (.s []), .sln] [])),
  ⟨none, none, .st 5 (.t 4) (.t 31)⟩])
  .ret))
  .skip))
  (.seq (.reg [(m18 32 0),
  (n18 33 32),
  (f18 34 1 33),
  (l18 35 1 34),
  (q18 36 (.bop .add (.t 35) (.c (.i .i64 1)))),
  (n18 37 32),
  (f18 38 1 37),
  ⟨none, none, .st 1 (.t 38) (.t 36)⟩])
  (.seq (.reg [(m18 39 0),
  (q18 40 (.call 135 [(.t 39), (.c (.i .i64 2))])),
  (q18 6 (.box 39 5 (.c (.ag [(.i .i8 0), (.i .i64 0), (.s []), (.s []), .sln])))),
  ⟨none, none, .st 5 (.t 6) (.t 40)⟩])
  (.seq (.reg [(m18 41 0),
  (q18 42 (.call 77 [(.t 41), (.c (.s [41]))]))])
  (.seq (.reg [(k18 43 5 5),
  (k18 44 5 6),
  (q18 45 (.bls 39 5 2 [(.i .i8 0), (.i .i64 0), (.s []), (.s []), .sln, (.i .i8 0), (.i .i64 0), (.s []), (.s []), .sln] [(0, 5, (.t 43)), (5, 5, (.t 44))])),
  (q18 46 (.bld [(.i .i8 0), (.i .i64 0), (.s []), (.s []), .sln] [(0, 1, (.c (.i .i8 13))), (4, 1, (.t 45))])),
  ⟨none, none, .st 5 (.t 4) (.t 46)⟩])
  .ret)))))
  .skip))
  (.seq (.reg [(m18 47 0),
  (m18 48 1),
  (q18 49 (.call 297 [(.t 47), (.t 48)])),
  (m18 7 49)])
  (.seq (.seq (.reg [(m18 50 0),
  (q18 51 (.call 37 [(.t 50)])),
  (m18 52 51),
  (g18 53 52 true (.mv (.t 7))),
  (g18 54 52 true (.bop .eql (.t 53) (.c (.s [])))),
  (q18 55 (.pick (.t 52) (.t 54) (.c (.b false))))])
  (.cond (.t 55) (.seq (.reg [(m18 56 0),
  (q18 57 (.call 38 [(.t 56)])),
  ⟨none, none, .st 5 (.t 4) (.t 57)⟩])
  .ret)
  .skip))
  (.seq (.reg [(m18 58 0),
  (m18 59 1),
  (q18 60 (.call 135 [(.t 58), (.t 59)])),
  (q18 8 (.box 39 5 (.c (.ag [(.i .i8 0), (.i .i64 0), (.s []), (.s []), .sln])))),
  ⟨none, none, .st 5 (.t 8) (.t 60)⟩])
  (.seq (.reg [(m18 61 0),
  (q18 62 (.call 77 [(.t 61), (.c (.s [41]))]))])
  (.seq (.reg [(m18 63 7),
  (k18 64 5 5),
  (k18 65 5 8),
  (q18 66 (.bls 39 5 2 [(.i .i8 0), (.i .i64 0), (.s []), (.s []), .sln, (.i .i8 0), (.i .i64 0), (.s []), (.s []), .sln] [(0, 5, (.t 64)), (5, 5, (.t 65))])),
  (q18 67 (.bld [(.i .i8 0), (.i .i64 0), (.s []), (.s []), .sln] [(0, 1, (.c (.i .i8 11))), (2, 1, (.t 63)), (4, 1, (.t 66))])),
  ⟨none, none, .st 5 (.t 4) (.t 67)⟩])
  .ret)))))))))⟩
def ir18_259 : XF := ⟨36, 1, [(2, none)], (.seq (.reg [(q18 1 (.box 39 5 (.t 0))),
  (q18 2 (.mv (.c (.b false))))])
  (.seq (.seq (.reg [(f18 3 0 1),
  (l18 4 1 3)])
  (.blk 0 (.seq (.reg [(q18 6 (.bop .eql (.t 4) (.c (.i .i8 5)))),
  (m18 5 6)])
  (.cond (.t 5) (.seq (.reg [(k18 7 5 1),
  (q18 8 (.call 81 [(.t 7), (.c (.b false)), (.c (.b true)), (.c (.b false)), (.c (.b false))])),
  (m18 9 8),
  (g18 10 9 true (.fa 2 (.t 1))),
  (g18 11 9 true (.ld false 1 (.t 10))),
  (g18 12 9 true (.call 301 [(.t 11)])),
  (q18 13 (.pick (.t 9) (.t 12) (.c (.b false)))),
  (m18 2 13)])
  .ret)
  (.seq (.reg [(q18 15 (.bop .eql (.t 4) (.c (.i .i8 6)))),
  (m18 14 15)])
  (.cond (.t 14) (.seq (.reg [(k18 16 5 1),
  (q18 17 (.call 81 [(.t 16), (.c (.b true)), (.c (.b false)), (.c (.b false)), (.c (.b false))])),
  (m18 18 17),
  (g18 19 18 true (.fa 1 (.t 1))),
  (g18 20 18 true (.ld false 1 (.t 19))),
  (g18 21 18 true (.call 302 [(.t 20)])),
  (q18 22 (.pick (.t 18) (.t 21) (.c (.b false)))),
  (m18 2 22)])
  .ret)
  (.seq (.reg [(q18 24 (.bop .eql (.t 4) (.c (.i .i8 7)))),
  (m18 23 24)])
  (.cond (.t 23) (.seq (.reg [(k18 25 5 1),
  (q18 26 (.call 81 [(.t 25), (.c (.b false)), (.c (.b true)), (.c (.b false)), (.c (.b false))])),
  (m18 27 26),
  (g18 28 27 true (.fa 2 (.t 1))),
  (g18 29 27 true (.ld false 1 (.t 28))),
  (g18 30 27 true (.call 82 [(.t 29)])),
  (q18 31 (.pick (.t 27) (.t 30) (.c (.b false)))),
  (m18 2 31)])
  .ret)
  (.seq (.reg [(q18 33 (.bop .eql (.t 4) (.c (.i .i8 8)))),
  (m18 32 33)])
  (.cond (.t 32) (.seq (.reg [(k18 34 5 1),
  (q18 35 (.call 81 [(.t 34), (.c (.b false)), (.c (.b false)), (.c (.b false)), (.c (.b false))])),
  (m18 2 35)])
  .ret)
  .skip))))))))))
  (.seq (.reg [(q18 2 (.mv (.c (.b false))))])
  .ret)))⟩
def ir18_261 : XF := ⟨16, 1, [(2, none)], (.seq (.reg [(q18 2 (.mv (.c (.b false))))])
  (.seq (.seq (.reg [(q18 3 (.mv (.c (.i .i64 0))))])
  (.blk 0 (.loop (.seq (.seq (.reg [(m18 4 3),
  (m18 5 0),
  (q18 6 (.len 1 (.t 5))),
  (q18 7 (.bop .lss (.t 4) (.t 6)))])
  (.cond (.t 7) .skip
  (.exit 0)))
  (.seq (.blk 1 (.seq (.reg [(m18 10 0),
  (m18 11 3),
  (q18 12 (.ia 5 (.t 10) (.t 11))),
  (k18 13 5 12),
  (q18 14 (.call 179 [(.t 13)])),
  (q18 15 (.un .not (.t 14)))])
  (.cond (.t 15) (.seq (.reg [(q18 2 (.mv (.c (.b false))))])
  .ret)
  .skip)))
  (.reg [(m18 8 3),
  (q18 9 (.bop .add (.t 8) (.c (.i .i64 1)))),
  (m18 3 9)]))))))
  (.seq (.reg [(q18 2 (.mv (.c (.b true))))])
  .ret)))⟩
def ir18_262 : XF := ⟨21, 1, [(2, none)], (.seq (.reg [(q18 2 (.mv (.c (.b false))))])
  (.seq (.reg [(m18 3 0),
  (q18 4 (.bop .eql (.t 3) (.c (.s [43])))),
  (m18 5 4),
  (g18 6 5 false (.mv (.t 0))),
  (g18 7 5 false (.bop .eql (.t 6) (.c (.s [45])))),
  (q18 8 (.pick (.t 5) (.c (.b true)) (.t 7))),
  (m18 9 8),
  (g18 10 9 false (.mv (.t 0))),
  (g18 11 9 false (.bop .eql (.t 10) (.c (.s [42])))),
  (q18 12 (.pick (.t 9) (.c (.b true)) (.t 11))),
  (m18 13 12),
  (g18 14 13 false (.mv (.t 0))),
  (g18 15 13 false (.bop .eql (.t 14) (.c (.s [100, 105, 118])))),
  (q18 16 (.pick (.t 13) (.c (.b true)) (.t 15))),
  (m18 17 16),
  (g18 18 17 false (.mv (.t 0))),
  (g18 19 17 false (.bop .eql (.t 18) (.c (.s [114, 101, 109])))),
  (q18 20 (.pick (.t 17) (.c (.b true)) (.t 19))),
  (m18 2 20)])
  .ret))⟩
def ir18_265 : XF := ⟨37, 1, [(2, none)], (.seq (.reg [(q18 2 (.mv (.c (.b false))))])
  (.seq (.reg [(m18 3 0),
  (n18 4 3),
  (f18 5 0 4),
  (l18 6 1 5),
  (q18 7 (.bop .eql (.t 6) (.c (.i .i8 0)))),
  (m18 8 7),
  (g18 9 8 true (.mv (.t 0))),
  (g18 10 8 true (.nck (.t 9))),
  (g18 11 8 true (.fa 1 (.t 10))),
  (g18 12 8 true (.ld false 1 (.t 11))),
  (g18 13 8 true (.bop .eql (.t 12) (.c (.i .i64 0)))),
  (q18 14 (.pick (.t 8) (.t 13) (.c (.b false)))),
  (m18 15 14),
  (g18 16 15 true (.mv (.t 0))),
  (g18 17 15 true (.nck (.t 16))),
  (g18 18 15 true (.fa 2 (.t 17))),
  (g18 19 15 true (.ld false 1 (.t 18))),
  (g18 20 15 true (.bop .eql (.t 19) (.c (.s [])))),
  (q18 21 (.pick (.t 15) (.t 20) (.c (.b false)))),
  (m18 22 21),
  (g18 23 22 true (.mv (.t 0))),
  (g18 24 22 true (.nck (.t 23))),
  (g18 25 22 true (.fa 3 (.t 24))),
  (g18 26 22 true (.ld false 1 (.t 25))),
  (g18 27 22 true (.bop .eql (.t 26) (.c (.s [])))),
  (q18 28 (.pick (.t 22) (.t 27) (.c (.b false)))),
  (m18 29 28),
  (g18 30 29 true (.mv (.t 0))),
  (g18 31 29 true (.nck (.t 30))),
  (g18 32 29 true (.fa 4 (.t 31))),
  (g18 33 29 true (.ld false 1 (.t 32))),
  (g18 34 29 true (.len 1 (.t 33))),
  (g18 35 29 true (.bop .eql (.t 34) (.c (.i .i64 0)))),
  (q18 36 (.pick (.t 29) (.t 35) (.c (.b false)))),
  (m18 2 36)])
  .ret))⟩
def ir18_266 : XF := ⟨37, 1, [(2, none)], (.seq (.reg [(q18 2 (.mv (.c (.b false))))])
  (.seq (.reg [(m18 3 0),
  (n18 4 3),
  (f18 5 0 4),
  (l18 6 1 5),
  (q18 7 (.bop .eql (.t 6) (.c (.i .i8 0)))),
  (m18 8 7),
  (g18 9 8 true (.mv (.t 0))),
  (g18 10 8 true (.nck (.t 9))),
  (g18 11 8 true (.fa 1 (.t 10))),
  (g18 12 8 true (.ld false 1 (.t 11))),
  (g18 13 8 true (.bop .eql (.t 12) (.c (.i .i64 0)))),
  (q18 14 (.pick (.t 8) (.t 13) (.c (.b false)))),
  (m18 15 14),
  (g18 16 15 true (.mv (.t 0))),
  (g18 17 15 true (.nck (.t 16))),
  (g18 18 15 true (.fa 2 (.t 17))),
  (g18 19 15 true (.ld false 1 (.t 18))),
  (g18 20 15 true (.bop .eql (.t 19) (.c (.s [])))),
  (q18 21 (.pick (.t 15) (.t 20) (.c (.b false)))),
  (m18 22 21),
  (g18 23 22 true (.mv (.t 0))),
  (g18 24 22 true (.nck (.t 23))),
  (g18 25 22 true (.fa 3 (.t 24))),
  (g18 26 22 true (.ld false 1 (.t 25))),
  (g18 27 22 true (.bop .eql (.t 26) (.c (.s [])))),
  (q18 28 (.pick (.t 22) (.t 27) (.c (.b false)))),
  (m18 29 28),
  (g18 30 29 true (.mv (.t 0))),
  (g18 31 29 true (.nck (.t 30))),
  (g18 32 29 true (.fa 4 (.t 31))),
  (g18 33 29 true (.ld false 1 (.t 32))),
  (g18 34 29 true (.len 1 (.t 33))),
  (g18 35 29 true (.bop .eql (.t 34) (.c (.i .i64 0)))),
  (q18 36 (.pick (.t 29) (.t 35) (.c (.b false)))),
  (m18 2 36)])
  .ret))⟩
def ir18_267 : XF := ⟨5, 0, [(0, none)], (.seq (.reg [(q18 0 (.mv (.c .mn)))])
  (.seq (.reg [(q18 1 (.mkm)),
  ⟨none, none, .ins .s (.t 1) (.c (.s [43])) (.c (.f (.func 304) [] []))⟩,
  ⟨none, none, .ins .s (.t 1) (.c (.s [45])) (.c (.f (.func 305) [] []))⟩,
  ⟨none, none, .ins .s (.t 1) (.c (.s [42])) (.c (.f (.func 306) [] []))⟩,
  (q18 2 (.call 307 [(.c (.f (.func 308) [] []))])),
  ⟨none, none, .ins .s (.t 1) (.c (.s [100, 105, 118])) (.t 2)⟩,
  (q18 3 (.call 307 [(.c (.f (.func 309) [] []))])),
  ⟨none, none, .ins .s (.t 1) (.c (.s [114, 101, 109])) (.t 3)⟩,
  (m18 4 1),
  (m18 0 4)])
  .ret))⟩
def ir18_269 : XF := ⟨17, 1, [(2, some (true, 2))], (.seq (.reg [(q18 2 (.box 312 2 (.c (.ag [(.i .i64 0), (.i .i64 0)]))))])
  (.seq (.reg [(q18 6 (.bld [(.i .i64 0), (.i .i64 0)] [])),
  (q18 3 (.box 312 2 (.c (.ag [(.i .i64 0), (.i .i64 0)])))),
  ⟨none, none, .st 2 (.t 3) (.t 6)⟩])
  (.seq (.reg [(q18 4 (.box 335 1 (.c .fn)))])
  (.seq (.reg [(q18 7 (.mkf (.func 310) [] [(.t 3), (.t 4)])),
  ⟨none, none, .st 1 (.t 4) (.t 7)⟩])
  (.seq (.reg [(l18 8 1 4),
  (m18 9 0),
  (q18 10 (.callv (.t 8) [(.t 9)]))])
  (.seq (.reg [(q18 5 (.box 336 1 (.c .fn)))])
  (.seq (.reg [(q18 11 (.mkf (.func 311) [] [(.t 5)])),
  ⟨none, none, .st 1 (.t 5) (.t 11)⟩])
  (.seq (.reg [(l18 12 1 5),
  (m18 13 0),
  (q18 14 (.callv (.t 12) [(.t 13), (.c (.i .i64 65))])),
  (f18 15 1 3),
  ⟨none, none, .st 1 (.t 15) (.t 14)⟩])
  (.seq (.reg [(k18 16 2 3),
  ⟨none, none, .st 2 (.t 2) (.t 16)⟩])
  .ret)))))))))⟩
def ir18_270 : XF := ⟨11, 1, [(2, none)], (.seq (.reg [(q18 1 (.box 312 2 (.t 0))),
  (q18 2 (.mv (.c (.b false))))])
  (.seq (.reg [(f18 3 0 1),
  (l18 4 1 3),
  (q18 5 (.bop .leq (.t 4) (.c (.i .i64 4096)))),
  (m18 6 5),
  (g18 7 6 true (.fa 1 (.t 1))),
  (g18 8 6 true (.ld false 1 (.t 7))),
  (g18 9 6 true (.bop .leq (.t 8) (.c (.i .i64 64)))),
  (q18 10 (.pick (.t 6) (.t 9) (.c (.b false)))),
  (m18 2 10)])
  .ret))⟩
def ir18_271 : XF := ⟨8, 1, [(2, none)], (.seq (.reg [(q18 2 (.mv (.c (.b false))))])
  (.seq (.reg [(q18 4 (.call 312 [])),
  (q18 3 (.box 338 22 (.c (.ag [.fn, .fn, .fn, .fn, .fn, .fn, .fn, .fn, .fn, .fn, .fn, .fn, .fn, .fn, .fn, .fn, .fn, .fn, .fn, .fn, .fn, .fn])))),
  ⟨none, none, .st 22 (.t 3) (.t 4)⟩])
  (.seq (.reg [(q18 5 (.call 313 [(.t 3), (.c (.f (.func 271) [] []))]))])
  (.seq (.reg [(m18 6 0),
  (q18 7 (.call 314 [(.t 3), (.t 6)])),
  (m18 2 7)])
  .ret))))⟩
def ir18_272 : XF := ⟨9, 2, [(4, none)], (.seq (.reg [(q18 4 (.mv (.c (.b false))))])
  (.seq (.reg [(m18 5 0),
  (m18 6 1),
  (q18 7 (.call 315 [(.t 5), (.t 6)])),
  (q18 8 (.bop .geq (.t 7) (.c (.i .i64 0)))),
  (m18 4 8)])
  .ret))⟩
def ir18_273 : XF := ⟨39, 1, [(2, none)], (.seq (.reg [(q18 1 (.box 39 5 (.t 0))),
  (q18 2 (.mv (.c .sln)))])
  (.seq (.seq (.reg [(q18 5 (.call 269 [(.t 1)])),
  (q18 6 (.call 270 [(.t 5)])),
  (q18 7 (.un .not (.t 6)))])
  (.cond (.t 7) (.seq (.reg [(q18 2 (.mv (.c .sln)))])
  .ret)
  .skip))
  (.seq (.reg [(q18 3 (.box 85 1 (.c .sln)))])
  (.seq (.seq (.reg [(q18 8 (.call 316 [(.t 1)]))])
  (.blk 0 (.rng 39 (.t 8) [9] (.reg [(m18 4 9)]) (.blk 1 (.seq (.par [(m18 10 4),
  (n18 11 10),
  (f18 12 0 11),
  (l18 13 1 12),
  (q18 14 (.bop .eql (.t 13) (.c (.i .i8 5)))),
  (m18 15 14),
  (g18 16 15 true (.mv (.t 4))),
  (g18 17 15 true (.nck (.t 16))),
  (g18 18 15 true (.fa 2 (.t 17))),
  (g18 19 15 true (.ld false 1 (.t 18))),
  (g18 20 15 true (.bop .neq (.t 19) (.c (.s [95])))),
  (q18 21 (.pick (.t 15) (.t 20) (.c (.b false)))),
  (m18 22 21),
  (g18 23 22 true (.ld false 1 (.t 3))),
  (g18 24 22 true (.mv (.t 4))),
  (g18 25 22 true (.nck (.t 24))),
  (g18 26 22 true (.fa 2 (.t 25))),
  (g18 27 22 true (.ld false 1 (.t 26))),
  (g18 28 22 true (.call 317 [(.t 23), (.t 27)])),
  (g18 29 22 true (.un .not (.t 28))),
  (q18 30 (.pick (.t 22) (.t 29) (.c (.b false))))] [0, 1, 3, 7, 15, 31, 63, 127, 255, 511, 1023, 2047, 4095, 8191, 8191, 24575, 57343, 122879, 262143, 524287, 1048575])
  (.cond (.t 30) (.par [(l18 31 1 3),
  (m18 32 4),
  (n18 33 32),
  (f18 34 2 33),
  (l18 35 1 34),
  (q18 36 (.bls 9 1 1 [(.s [])] [(0, 1, (.t 35))])),
  (q18 37 (.app 9 1 (.t 31) (.t 36))),
  ⟨none, none, .st 1 (.t 3) (.t 37)⟩] [0, 0, 2, 6, 14, 30, 63, 127])
  .skip))))))
  (.seq (.reg [(l18 38 1 3),
  (m18 2 38)])
  .ret)))))⟩
def ir18_274 : XF := ⟨12, 1, [(2, none)], (.seq (.reg [(q18 2 (.mv (.c (.b false))))])
  (.seq (.reg [(m18 6 0),
  (q18 7 (.call 240 [(.t 6)])),
  (m18 5 7),
  (q18 8 (.ex (.t 5) 0)),
  (q18 9 (.ex (.t 5) 1)),
  (m18 3 8),
  (m18 4 9)])
  (.seq (.reg [(m18 10 4),
  (q18 11 (.un .not (.t 10))),
  (m18 2 11)])
  .ret)))⟩
def ir18_275 : XF := ⟨19, 2, [(4, none)], (.seq (.reg [(q18 4 (.mv (.c (.i .i64 0))))])
  (.seq (.seq (.reg [(m18 6 0),
  (q18 7 (.len 1 (.t 6))),
  (q18 8 (.mv (.c (.i .i64 0))))])
  (.blk 0 (.loop (.seq (.reg [(q18 9 (.bop .lss (.t 8) (.t 7)))])
  (.seq (.cond (.t 9) .skip
  (.exit 0))
  (.seq (.blk 1 (.seq (.reg [(m18 10 8),
  (m18 5 10)])
  (.seq (.reg [(m18 11 1),
  (m18 12 0),
  (m18 13 5),
  (q18 14 (.ia 5 (.t 12) (.t 13))),
  (k18 15 5 14),
  (q18 16 (.callv (.t 11) [(.t 15)]))])
  (.cond (.t 16) (.seq (.reg [(m18 17 5),
  (m18 4 17)])
  .ret)
  .skip))))
  (.reg [(q18 18 (.bop .add (.t 8) (.c (.i .i64 1)))),
  (m18 8 18)])))))))
  (.seq (.reg [(q18 4 (.mv (.c (.i .i64 (-1)))))])
  .ret)))⟩
def ir18_278 : XF := ⟨44, 2, [(4, none)], (.seq (.reg [(q18 2 (.box 27 5 (.t 0))),
  (q18 3 (.box 27 5 (.t 1))),
  (q18 4 (.mv (.c (.i .i64 0))))])
  (.seq (.seq (.reg [(f18 5 0 2),
  (l18 6 1 5),
  (f18 7 0 3),
  (l18 8 1 7),
  (q18 9 (.bop .neq (.t 6) (.t 8)))])
  (.cond (.t 9) (.seq (.reg [(f18 10 0 2),
  (l18 11 1 10),
  (f18 12 0 3),
  (l18 13 1 12),
  (q18 14 (.call 319 [(.t 11), (.t 13)])),
  (m18 4 14)])
  .ret)
  .skip))
  (.seq (.par [(f18 15 4 2),
  (l18 16 1 15),
  (q18 17 (.len 1 (.t 16))),
  (f18 18 4 3),
  (l18 19 1 18),
  (q18 20 (.len 1 (.t 19))),
  (q18 21 (.call 321 [(.t 17), (.t 20)])),
  (f18 22 2 2),
  (l18 23 1 22),
  (f18 24 2 3),
  (l18 25 1 24),
  (q18 26 (.call 322 [(.t 23), (.t 25)])),
  (f18 27 3 2),
  (l18 28 1 27),
  (f18 29 3 3),
  (l18 30 1 29),
  (q18 31 (.call 322 [(.t 28), (.t 30)])),
  (f18 32 1 2),
  (l18 33 1 32),
  (f18 34 1 3),
  (l18 35 1 34),
  (q18 36 (.call 321 [(.t 33), (.t 35)])),
  (f18 37 4 2),
  (l18 38 1 37),
  (f18 39 4 3),
  (l18 40 1 39),
  (q18 41 (.call 323 [(.t 38), (.t 40), (.c (.f (.func 278) [] []))])),
  (q18 42 (.bls 3 1 5 [(.i .i64 0), (.i .i64 0), (.i .i64 0), (.i .i64 0), (.i .i64 0)] [(0, 1, (.t 21)), (1, 1, (.t 26)), (2, 1, (.t 31)), (3, 1, (.t 36)), (4, 1, (.t 41))])),
  (q18 43 (.call 320 [(.t 42)])),
  (m18 4 43)] [0, 1, 3, 0, 8, 24, 63, 0, 128, 0, 512, 2047, 0, 4096, 0, 16384, 65535, 0, 131072, 0, 524288, 2097151, 0, 4194304, 0, 16777216, 67108863, 134217727, 268435455, 536870911])
  .ret)))⟩
def ir18_282 : XF := ⟨18, 1, [(2, none)], (.seq (.reg [(q18 1 (.box 70 6 (.t 0))),
  (q18 2 (.mv (.c (.b false))))])
  (.seq (.reg [(f18 3 0 1),
  (l18 4 1 3),
  (q18 5 (.bop .eql (.t 4) (.c (.s [95])))),
  (m18 6 5),
  (g18 7 6 false (.fa 0 (.t 1))),
  (g18 8 6 false (.ld false 1 (.t 7))),
  (g18 9 6 false (.call 283 [(.t 8)])),
  (g18 10 6 false (.un .not (.t 9))),
  (q18 11 (.pick (.t 6) (.c (.b true)) (.t 10))),
  (m18 12 11),
  (g18 13 12 false (.fa 1 (.t 1))),
  (g18 14 12 false (.ld true 5 (.t 13))),
  (g18 15 12 false (.call 62 [(.t 14)])),
  (g18 16 12 false (.bop .neq (.t 15) (.c (.i .i64 0)))),
  (q18 17 (.pick (.t 12) (.c (.b true)) (.t 16))),
  (m18 2 17)])
  .ret))⟩
def ir18_283 : XF := ⟨17, 1, [(2, none)], (.seq (.reg [(q18 2 (.mv (.c (.b false))))])
  (.seq (.par [(m18 3 0),
  (q18 4 (.call 146 [(.t 3)])),
  (m18 5 4),
  (g18 6 5 true (.mv (.t 0))),
  (g18 7 5 true (.ixS (.t 6) (.c (.i .i64 0)))),
  (g18 8 5 true (.slcA 4 2 (.c (.p 0 0)) (some (.c (.i .i64 1))) (some (.c (.i .i64 2))) none)),
  (g18 9 5 true (.call 147 [(.t 7), (.t 8)])),
  (g18 10 5 true (.mv (.t 9))),
  (g18 11 10 false (.mv (.t 0))),
  (g18 12 10 false (.ixS (.t 11) (.c (.i .i64 0)))),
  (g18 13 10 false (.slcA 4 2 (.c (.p 0 0)) (some (.c (.i .i64 3))) none none)),
  (g18 14 10 false (.call 147 [(.t 12), (.t 13)])),
  (g18 15 5 true (.pick (.t 10) (.c (.b true)) (.t 14))),
  (q18 16 (.pick (.t 5) (.t 15) (.c (.b false)))),
  (m18 2 16)] [0, 1, 3, 7, 15, 7, 63, 127, 255, 511, 255, 2047, 4095, 8191, 16383])
  .ret))⟩
def ir18_284 : XF := ⟨9, 2, [(4, none)], (.seq (.reg [(q18 4 (.mv (.c (.b false))))])
  (.seq (.reg [(m18 5 0),
  (m18 6 1),
  (q18 7 (.call 324 [(.t 5), (.t 6)])),
  (q18 8 (.bop .geq (.t 7) (.c (.i .i64 0)))),
  (m18 4 8)])
  .ret))⟩
def ir18_286 : XF := ⟨8, 2, [(4, none)], (.seq (.reg [(q18 4 (.mv (.c (.s []))))])
  (.seq (.reg [(m18 5 0),
  (m18 6 1),
  (q18 7 (.call 327 [(.t 5), (.t 6)])),
  (m18 4 7)])
  .ret))⟩
def ir18_287 : XF := ⟨6, 1, [(2, none)], (.seq (.reg [(q18 1 (.box 39 5 (.t 0))),
  (q18 2 (.mv (.c (.b false))))])
  (.seq (.reg [(k18 3 5 1),
  (q18 4 (.call 205 [(.t 3)])),
  (q18 5 (.un .not (.t 4))),
  (m18 2 5)])
  .ret))⟩
def ir18_288 : XF := ⟨6, 1, [(2, none)], (.seq (.reg [(q18 1 (.box 27 5 (.t 0))),
  (q18 2 (.mv (.c (.b false))))])
  (.seq (.reg [(k18 3 5 1),
  (q18 4 (.call 62 [(.t 3)])),
  (q18 5 (.bop .neq (.t 4) (.c (.i .i64 0)))),
  (m18 2 5)])
  .ret))⟩
def ir18_289 : XF := ⟨25, 3, [(6, none), (7, none)], (.seq (.reg [(q18 3 (.box 39 5 (.t 0))),
  (q18 4 (.box 27 5 (.t 1))),
  (q18 6 (.mv (.c .sln))),
  (q18 7 (.mv (.c (.b false))))])
  (.seq (.reg [(q18 9 (.call 329 [(.c (.i .i8 0))])),
  (q18 10 (.call 329 [(.c (.i .i8 1))])),
  (q18 11 (.call 329 [(.c (.i .i8 6))])),
  (q18 12 (.call 330 [(.c (.i .i8 7))])),
  (q18 13 (.call 330 [(.c (.i .i8 5))])),
  (q18 14 (.bld [.fn, .fn, .fn, .fn, .fn, .fn, .fn, .fn, .fn, .fn, .fn] [(5, 1, (.c (.f (.func 328) [] []))), (6, 1, (.t 9)), (7, 1, (.t 10)), (8, 1, (.t 11)), (9, 1, (.t 12)), (10, 1, (.t 13))])),
  (q18 8 (.box 356 11 (.c (.ag [.fn, .fn, .fn, .fn, .fn, .fn, .fn, .fn, .fn, .fn, .fn])))),
  ⟨none, none, .st 11 (.t 8) (.t 14)⟩])
  (.seq (.par [(f18 15 0 3),
  (l18 16 1 15),
  (q18 17 (.iaA 11 1 (.t 8) (.t 16))),
  (l18 18 1 17),
  (k18 19 5 3),
  (k18 20 5 4),
  (m18 21 2),
  (q18 22 (.callv (.t 18) [(.t 19), (.t 20), (.t 21)])),
  (q18 23 (.ex (.t 22) 0)),
  (q18 24 (.ex (.t 22) 1)),
  (m18 6 23),
  (m18 7 24)] [0, 1, 3, 7, 0, 0, 0, 127, 255, 255, 1023, 2047])
  .ret)))⟩
def ir18_293 : XF := ⟨19, 2, [(4, none)], (.seq (.reg [(q18 4 (.mv (.c (.i .i64 0))))])
  (.seq (.seq (.reg [(m18 6 0),
  (q18 7 (.len 1 (.t 6))),
  (q18 8 (.mv (.c (.i .i64 0))))])
  (.blk 0 (.loop (.seq (.reg [(q18 9 (.bop .lss (.t 8) (.t 7)))])
  (.seq (.cond (.t 9) .skip
  (.exit 0))
  (.seq (.blk 1 (.seq (.reg [(m18 10 8),
  (m18 5 10)])
  (.seq (.reg [(m18 11 1),
  (m18 12 0),
  (m18 13 5),
  (q18 14 (.ia 1 (.t 12) (.t 13))),
  (l18 15 1 14),
  (q18 16 (.bop .eql (.t 11) (.t 15)))])
  (.cond (.t 16) (.seq (.reg [(m18 17 5),
  (m18 4 17)])
  .ret)
  .skip))))
  (.reg [(q18 18 (.bop .add (.t 8) (.c (.i .i64 1)))),
  (m18 8 18)])))))))
  (.seq (.reg [(q18 4 (.mv (.c (.i .i64 (-1)))))])
  .ret)))⟩
def ir18_297 : XF := ⟨73, 2, [(4, none)], (.seq (.reg [(q18 4 (.mv (.c (.s []))))])
  (.seq (.reg [(m18 11 0),
  (q18 12 (.call 73 [(.t 11)])),
  (m18 10 12),
  (q18 13 (.ex (.t 10) 0)),
  (q18 14 (.ex (.t 10) 1)),
  (q18 5 (.box 150 4 (.c (.ag [(.i .i8 0), (.i .i64 0), (.s []), (.i .i64 0)])))),
  ⟨none, none, .st 4 (.t 5) (.t 13)⟩,
  (m18 6 14)])
  (.seq (.seq (.reg [(m18 15 0),
  (q18 16 (.call 37 [(.t 15)])),
  (q18 17 (.un .not (.t 16))),
  (m18 18 17),
  (g18 19 18 false (.mv (.t 6))),
  (g18 20 18 false (.un .not (.t 19))),
  (q18 21 (.pick (.t 18) (.c (.b true)) (.t 20))),
  (m18 22 21),
  (g18 23 22 false (.fa 0 (.t 5))),
  (g18 24 22 false (.ld false 1 (.t 23))),
  (g18 25 22 false (.bop .neq (.t 24) (.c (.i .i8 3)))),
  (q18 26 (.pick (.t 22) (.c (.b true)) (.t 25)))])
  (.cond (.t 26) (.seq (.reg [(q18 4 (.mv (.c (.s []))))])
  .ret)
  .skip))
  (.seq (.reg [(f18 28 2 5),
  (l18 29 1 28),
  (q18 30 (.call 176 [(.t 29), (.c (.i .i64 0))])),
  (m18 27 30),
  (q18 31 (.ex (.t 27) 0)),
  (q18 32 (.ex (.t 27) 1)),
  (m18 7 31),
  (m18 8 32)])
  (.seq (.reg [(f18 33 2 5),
  (l18 34 1 33),
  (q18 35 (.bop .eql (.t 34) (.c (.s [43])))),
  (m18 36 35),
  (g18 37 36 false (.fa 2 (.t 5))),
  (g18 38 36 false (.ld false 1 (.t 37))),
  (g18 39 36 false (.bop .eql (.t 38) (.c (.s [45])))),
  (q18 40 (.pick (.t 36) (.c (.b true)) (.t 39))),
  (m18 41 40),
  (g18 42 41 false (.fa 2 (.t 5))),
  (g18 43 41 false (.ld false 1 (.t 42))),
  (g18 44 41 false (.bop .eql (.t 43) (.c (.s [42])))),
  (q18 45 (.pick (.t 41) (.c (.b true)) (.t 44))),
  (m18 9 45)])
  (.seq (.seq (.reg [(m18 46 9),
  (m18 47 46),
  (g18 48 47 false (.mv (.t 1))),
  (g18 49 47 false (.bop .eql (.t 48) (.c (.i .i64 2)))),
  (g18 50 47 false (.mv (.t 49))),
  (g18 51 50 true (.mv (.t 8))),
  (g18 52 50 true (.mv (.t 51))),
  (g18 53 52 false (.fa 2 (.t 5))),
  (g18 54 52 false (.ld false 1 (.t 53))),
  (g18 55 52 false (.bop .eql (.t 54) (.c (.s [100, 105, 118])))),
  (g18 56 50 true (.pick (.t 52) (.c (.b true)) (.t 55))),
  (g18 57 50 true (.mv (.t 56))),
  (g18 58 57 false (.fa 2 (.t 5))),
  (g18 59 57 false (.ld false 1 (.t 58))),
  (g18 60 57 false (.bop .eql (.t 59) (.c (.s [114, 101, 109])))),
  (g18 61 50 true (.pick (.t 57) (.c (.b true)) (.t 60))),
  (g18 62 47 false (.pick (.t 50) (.t 61) (.c (.b false)))),
  (q18 63 (.pick (.t 47) (.c (.b true)) (.t 62)))])
  (.cond (.t 63) (.seq (.reg [(m18 64 0),
  (n18 65 64),
  (f18 66 1 65),
  (l18 67 1 66),
  (q18 68 (.bop .add (.t 67) (.c (.i .i64 1)))),
  (n18 69 64),
  (f18 70 1 69),
  ⟨none, none, .st 1 (.t 70) (.t 68)⟩])
  (.seq (.reg [(f18 71 2 5),
  (l18 72 1 71),
  (m18 4 72)])
  .ret))
  .skip))
  (.seq (.reg [(q18 4 (.mv (.c (.s []))))])
  .ret)))))))⟩
def ir18_301 : XF := ⟨63, 1, [(2, none)], (.seq (.reg [(q18 2 (.mv (.c (.b false))))])
  (.seq (.seq (.reg [(m18 5 0),
  (q18 6 (.len 0 (.t 5))),
  (q18 7 (.bop .lss (.t 6) (.c (.i .i64 1)))),
  (m18 8 7),
  (g18 9 8 false (.mv (.t 0))),
  (g18 10 8 false (.len 0 (.t 9))),
  (g18 11 8 false (.bop .gtr (.t 10) (.c (.i .i64 32)))),
  (q18 12 (.pick (.t 8) (.c (.b true)) (.t 11))),
  (m18 13 12),
  (g18 14 13 false (.mv (.t 0))),
  (g18 15 13 false (.ixS (.t 14) (.c (.i .i64 0)))),
  (g18 16 13 false (.bop .neq (.t 15) (.c (.i .u8 95)))),
  (g18 17 13 false (.mv (.t 16))),
  (g18 18 17 true (.mv (.t 0))),
  (g18 19 17 true (.ixS (.t 18) (.c (.i .i64 0)))),
  (g18 20 17 true (.bop .lss (.t 19) (.c (.i .u8 65)))),
  (g18 21 17 true (.mv (.t 20))),
  (g18 22 21 false (.mv (.t 0))),
  (g18 23 21 false (.ixS (.t 22) (.c (.i .i64 0)))),
  (g18 24 21 false (.bop .gtr (.t 23) (.c (.i .u8 90)))),
  (g18 25 17 true (.pick (.t 21) (.c (.b true)) (.t 24))),
  (g18 26 13 false (.pick (.t 17) (.t 25) (.c (.b false)))),
  (q18 27 (.pick (.t 13) (.c (.b true)) (.t 26)))])
  (.cond (.t 27) (.seq (.reg [(q18 2 (.mv (.c (.b false))))])
  .ret)
  .skip))
  (.seq (.seq (.reg [(q18 3 (.mv (.c (.i .i64 0))))])
  (.blk 0 (.loop (.seq (.seq (.reg [(m18 28 3),
  (m18 29 0),
  (q18 30 (.len 0 (.t 29))),
  (q18 31 (.bop .lss (.t 28) (.t 30)))])
  (.cond (.t 31) .skip
  (.exit 0)))
  (.seq (.blk 1 (.seq (.reg [(m18 34 0),
  (m18 35 3),
  (q18 36 (.ixS (.t 34) (.t 35))),
  (m18 4 36)])
  (.seq (.reg [(m18 37 4),
  (q18 38 (.bop .neq (.t 37) (.c (.i .u8 95)))),
  (m18 39 38),
  (g18 40 39 true (.mv (.t 4))),
  (g18 41 39 true (.bop .lss (.t 40) (.c (.i .u8 48)))),
  (g18 42 39 true (.mv (.t 41))),
  (g18 43 42 false (.mv (.t 4))),
  (g18 44 42 false (.bop .gtr (.t 43) (.c (.i .u8 57)))),
  (g18 45 39 true (.pick (.t 42) (.c (.b true)) (.t 44))),
  (q18 46 (.pick (.t 39) (.t 45) (.c (.b false)))),
  (m18 47 46),
  (g18 48 47 true (.mv (.t 4))),
  (g18 49 47 true (.bop .lss (.t 48) (.c (.i .u8 65)))),
  (g18 50 47 true (.mv (.t 49))),
  (g18 51 50 false (.mv (.t 4))),
  (g18 52 50 false (.bop .gtr (.t 51) (.c (.i .u8 90)))),
  (g18 53 47 true (.pick (.t 50) (.c (.b true)) (.t 52))),
  (q18 54 (.pick (.t 47) (.t 53) (.c (.b false)))),
  (m18 55 54),
  (g18 56 55 true (.mv (.t 4))),
  (g18 57 55 true (.bop .lss (.t 56) (.c (.i .u8 97)))),
  (g18 58 55 true (.mv (.t 57))),
  (g18 59 58 false (.mv (.t 4))),
  (g18 60 58 false (.bop .gtr (.t 59) (.c (.i .u8 122)))),
  (g18 61 55 true (.pick (.t 58) (.c (.b true)) (.t 60))),
  (q18 62 (.pick (.t 55) (.t 61) (.c (.b false))))])
  (.cond (.t 62) (.seq (.reg [(q18 2 (.mv (.c (.b false))))])
  .ret)
  .skip))))
  (.reg [(m18 32 3),
  (q18 33 (.bop .add (.t 32) (.c (.i .i64 1)))),
  (m18 3 33)]))))))
  (.seq (.reg [(q18 2 (.mv (.c (.b true))))])
  .ret))))⟩
def ir18_302 : XF := ⟨9, 1, [(2, none)], (.seq (.reg [(q18 2 (.mv (.c (.b false))))])
  (.seq (.reg [(m18 3 0),
  (q18 4 (.bop .geq (.t 3) (.c (.i .i64 (-576460752303423488))))),
  (m18 5 4),
  (g18 6 5 true (.mv (.t 0))),
  (g18 7 5 true (.bop .leq (.t 6) (.c (.i .i64 576460752303423487)))),
  (q18 8 (.pick (.t 5) (.t 7) (.c (.b false)))),
  (m18 2 8)])
  .ret))⟩
def ir18_305 : XF := ⟨9, 2, [(4, none), (5, none)], (.seq (.reg [(q18 4 (.mv (.c (.i .i64 0)))),
  (q18 5 (.mv (.c (.i .i64 0))))])
  (.seq (.reg [(m18 6 0),
  (m18 7 1),
  (q18 8 (.bop .sub (.t 6) (.t 7))),
  (m18 4 8),
  (q18 5 (.mv (.c (.i .i64 0))))])
  .ret))⟩
def ir18_306 : XF := ⟨38, 2, [(4, none), (5, none)], (.seq (.reg [(q18 4 (.mv (.c (.i .i64 0)))),
  (q18 5 (.mv (.c (.i .i64 0))))])
  (.seq (.reg [(m18 9 0),
  (m18 10 0),
  (q18 11 (.un .neg (.t 10))),
  (q18 12 (.mm true (.t 9) (.t 11))),
  (q18 13 (.cvi .u64 (.t 12))),
  (m18 14 1),
  (m18 15 1),
  (q18 16 (.un .neg (.t 15))),
  (q18 17 (.mm true (.t 14) (.t 16))),
  (q18 18 (.cvi .u64 (.t 17))),
  (q18 19 (.call 337 [(.t 13), (.t 18)])),
  (m18 8 19),
  (q18 20 (.ex (.t 8) 0)),
  (q18 21 (.ex (.t 8) 1)),
  (m18 6 20),
  (m18 7 21)])
  (.seq (.seq (.reg [(m18 22 6),
  (q18 23 (.bop .gtr (.t 22) (.c (.i .u64 0)))),
  (m18 24 23),
  (g18 25 24 false (.mv (.t 7))),
  (g18 26 24 false (.bop .gtr (.t 25) (.c (.i .u64 576460752303423488)))),
  (q18 27 (.pick (.t 24) (.c (.b true)) (.t 26)))])
  (.cond (.t 27) (.seq (.reg [(q18 4 (.mv (.c (.i .i64 0)))),
  (q18 5 (.mv (.c (.i .i64 11))))])
  .ret)
  .skip))
  (.seq (.seq (.reg [(m18 28 0),
  (q18 29 (.bop .lss (.t 28) (.c (.i .i64 0)))),
  (m18 30 1),
  (q18 31 (.bop .lss (.t 30) (.c (.i .i64 0)))),
  (q18 32 (.beq true (.t 29) (.t 31)))])
  (.cond (.t 32) (.seq (.reg [(m18 33 7),
  (q18 34 (.cvi .i64 (.t 33))),
  (q18 35 (.un .neg (.t 34))),
  (m18 4 35),
  (q18 5 (.mv (.c (.i .i64 0))))])
  .ret)
  .skip))
  (.seq (.reg [(m18 36 7),
  (q18 37 (.cvi .i64 (.t 36))),
  (m18 4 37),
  (q18 5 (.mv (.c (.i .i64 0))))])
  .ret)))))⟩
def ir18_307 : XF := ⟨4, 1, [(2, none)], (.seq (.reg [(q18 1 (.box 119 1 (.t 0))),
  (q18 2 (.mv (.c .fn)))])
  (.seq (.reg [(q18 3 (.mkf (.func 338) [] [(.t 1)])),
  (m18 2 3)])
  .ret))⟩
def ir18_310 : XF := ⟨29, 3, [], (.seq (.reg [(f18 5 0 1),
  (l18 6 1 5),
  (q18 7 (.bop .add (.t 6) (.c (.i .i64 1)))),
  (f18 8 0 1),
  ⟨none, none, .st 1 (.t 8) (.t 7)⟩])
  (.seq (.reg [(m18 9 0),
  (n18 10 9),
  (f18 11 4 10),
  (l18 12 1 11),
  (q18 13 (.len 1 (.t 12))),
  (q18 14 (.mv (.c (.i .i64 0))))])
  (.blk 0 (.loop (.seq (.reg [(q18 15 (.bop .lss (.t 14) (.t 13)))])
  (.seq (.cond (.t 15) .skip
  (.exit 0))
  (.seq (.blk 1 (.seq (.reg [(m18 16 14),
  (m18 4 16)])
  (.seq (.seq (.reg [(f18 17 0 1),
  (l18 18 1 17),
  (q18 19 (.bop .gtr (.t 18) (.c (.i .i64 4096))))])
  (.cond (.t 19) .ret
  .skip))
  (.par [(l18 20 1 2),
  (m18 21 0),
  (n18 22 21),
  (f18 23 4 22),
  (l18 24 1 23),
  (m18 25 4),
  (q18 26 (.ia 5 (.t 24) (.t 25))),
  (q18 27 (.callv (.t 20) [(.t 26)]))] [0, 0, 2, 6, 14, 0, 62, 127]))))
  (.reg [(q18 28 (.bop .add (.t 14) (.c (.i .i64 1)))),
  (m18 14 28)]))))))))⟩
def ir18_311 : XF := ⟨37, 3, [(5, none)], (.seq (.reg [(q18 5 (.mv (.c (.i .i64 0))))])
  (.seq (.reg [(q18 6 (.mv (.c (.i .i64 1))))])
  (.seq (.seq (.reg [(m18 8 0),
  (n18 9 8),
  (f18 10 4 9),
  (l18 11 1 10),
  (q18 12 (.len 1 (.t 11))),
  (q18 13 (.mv (.c (.i .i64 0))))])
  (.blk 0 (.loop (.seq (.reg [(q18 14 (.bop .lss (.t 13) (.t 12)))])
  (.seq (.cond (.t 14) .skip
  (.exit 0))
  (.seq (.blk 1 (.seq (.reg [(m18 15 13),
  (m18 7 15)])
  (.seq (.reg [(m18 16 1),
  (q18 17 (.bop .gtr (.t 16) (.c (.i .i64 1)))),
  (m18 18 17),
  (g18 19 18 true (.mv (.t 6))),
  (g18 20 18 true (.bop .leq (.t 19) (.c (.i .i64 64)))),
  (q18 21 (.pick (.t 18) (.t 20) (.c (.b false))))])
  (.cond (.t 21) (.par [(m18 22 6),
  (l18 23 1 2),
  (m18 24 0),
  (n18 25 24),
  (f18 26 4 25),
  (l18 27 1 26),
  (m18 28 7),
  (q18 29 (.ia 5 (.t 27) (.t 28))),
  (m18 30 1),
  (q18 31 (.bop .sub (.t 30) (.c (.i .i64 1)))),
  (q18 32 (.callv (.t 23) [(.t 29), (.t 31)])),
  (q18 33 (.bop .add (.c (.i .i64 1)) (.t 32))),
  (q18 34 (.mm true (.t 22) (.t 33))),
  (m18 6 34)] [0, 0, 0, 4, 12, 28, 0, 124, 0, 256, 1022, 2046, 4095, 8191])
  .skip))))
  (.reg [(q18 35 (.bop .add (.t 13) (.c (.i .i64 1)))),
  (m18 13 35)])))))))
  (.seq (.reg [(m18 36 6),
  (m18 5 36)])
  .ret))))⟩
def ir18_312 : XF := ⟨2, 0, [(0, some (true, 22))], (.seq (.reg [(q18 0 (.box 338 22 (.c (.ag [.fn, .fn, .fn, .fn, .fn, .fn, .fn, .fn, .fn, .fn, .fn, .fn, .fn, .fn, .fn, .fn, .fn, .fn, .fn, .fn, .fn, .fn]))))])
  (.seq (.reg [(q18 1 (.bld [.fn, .fn, .fn, .fn, .fn, .fn, .fn, .fn, .fn, .fn, .fn, .fn, .fn, .fn, .fn, .fn, .fn, .fn, .fn, .fn, .fn, .fn] [(5, 1, (.c (.f (.func 339) [] []))), (6, 1, (.c (.f (.func 341) [] []))), (7, 1, (.c (.f (.func 342) [] []))), (8, 1, (.c (.f (.func 344) [] []))), (21, 1, (.c .fn))])),
  ⟨none, none, .st 22 (.t 0) (.t 1)⟩])
  .ret))⟩
def ir18_313 : XF := ⟨12, 2, [], (.seq (.reg [(q18 3 (.box 287 1 (.t 1)))])
  (.seq (.reg [(m18 4 0),
  (q18 5 (.mkf (.func 345) [] [(.t 3)])),
  (n18 6 4),
  (q18 7 (.iaA 22 1 (.t 6) (.c (.i .i8 10)))),
  ⟨none, none, .st 1 (.t 7) (.t 5)⟩])
  (.reg [(m18 8 0),
  (q18 9 (.mkf (.func 346) [] [(.t 3)])),
  (n18 10 8),
  (q18 11 (.iaA 22 1 (.t 10) (.c (.i .i8 9)))),
  ⟨none, none, .st 1 (.t 11) (.t 9)⟩])))⟩
def ir18_314 : XF := ⟨41, 2, [(4, none)], (.seq (.reg [(q18 4 (.mv (.c (.b false))))])
  (.seq (.par [(m18 5 1),
  (n18 6 5),
  (f18 7 0 6),
  (l18 8 1 7),
  (q18 9 (.bop .geq (.t 8) (.c (.i .i8 0)))),
  (m18 10 9),
  (g18 11 10 true (.mv (.t 1))),
  (g18 12 10 true (.nck (.t 11))),
  (g18 13 10 true (.fa 0 (.t 12))),
  (g18 14 10 true (.ld false 1 (.t 13))),
  (g18 15 10 true (.cvi .i64 (.t 14))),
  (g18 16 10 true (.bop .lss (.t 15) (.c (.i .i64 22)))),
  (q18 17 (.pick (.t 10) (.t 16) (.c (.b false)))),
  (m18 18 17),
  (g18 19 18 true (.mv (.t 0))),
  (g18 20 18 true (.mv (.t 1))),
  (g18 21 18 true (.nck (.t 20))),
  (g18 22 18 true (.fa 0 (.t 21))),
  (g18 23 18 true (.ld false 1 (.t 22))),
  (g18 24 18 true (.nck (.t 19))),
  (g18 25 18 true (.iaA 22 1 (.t 24) (.t 23))),
  (g18 26 18 true (.ld false 1 (.t 25))),
  (g18 27 18 true (.eq 3 true true (.t 26) (.c .fn))),
  (q18 28 (.pick (.t 18) (.t 27) (.c (.b false)))),
  (m18 29 28),
  (g18 30 29 true (.mv (.t 0))),
  (g18 31 29 true (.mv (.t 1))),
  (g18 32 29 true (.nck (.t 31))),
  (g18 33 29 true (.fa 0 (.t 32))),
  (g18 34 29 true (.ld false 1 (.t 33))),
  (g18 35 29 true (.nck (.t 30))),
  (g18 36 29 true (.iaA 22 1 (.t 35) (.t 34))),
  (g18 37 29 true (.ld false 1 (.t 36))),
  (g18 38 29 true (.mv (.t 1))),
  (g18 39 29 true (.callv (.t 37) [(.t 38)])),
  (q18 40 (.pick (.t 29) (.t 39) (.c (.b false)))),
  (m18 4 40)] [0, 1, 3, 7, 15, 31, 63, 127, 255, 511, 1023, 2047, 4095, 8191, 16383, 16383, 49151, 114687, 245759, 32767, 1048575, 2097151, 4194303, 8388607, 16777215, 33554431, 33554431, 100663295, 234881023, 503316479, 67108863, 2147483647, 4294967295, 33554431, 17179869183, 34359738367, 68719476735])
  .ret))⟩
def ir18_315 : XF := ⟨19, 2, [(4, none)], (.seq (.reg [(q18 4 (.mv (.c (.i .i64 0))))])
  (.seq (.seq (.reg [(m18 6 0),
  (q18 7 (.len 1 (.t 6))),
  (q18 8 (.mv (.c (.i .i64 0))))])
  (.blk 0 (.loop (.seq (.reg [(q18 9 (.bop .lss (.t 8) (.t 7)))])
  (.seq (.cond (.t 9) .skip
  (.exit 0))
  (.seq (.blk 1 (.seq (.reg [(m18 10 8),
  (m18 5 10)])
  (.seq (.reg [(m18 11 1),
  (m18 12 0),
  (m18 13 5),
  (q18 14 (.ia 1 (.t 12) (.t 13))),
  (l18 15 1 14),
  (q18 16 (.callv (.t 11) [(.t 15)]))])
  (.cond (.t 16) (.seq (.reg [(m18 17 5),
  (m18 4 17)])
  .ret)
  .skip))))
  (.reg [(q18 18 (.bop .add (.t 8) (.c (.i .i64 1)))),
  (m18 8 18)])))))))
  (.seq (.reg [(q18 4 (.mv (.c (.i .i64 (-1)))))])
  .ret)))⟩
def ir18_316 : XF := ⟨4, 1, [(2, none)], (.seq (.reg [(q18 1 (.box 289 1 (.t 0))),
  (q18 2 (.mv (.c .fn)))])
  (.seq (.reg [(q18 3 (.mkf (.func 347) [] [(.t 1)])),
  (m18 2 3)])
  .ret))⟩
def ir18_317 : XF := ⟨9, 2, [(4, none)], (.seq (.reg [(q18 4 (.mv (.c (.b false))))])
  (.seq (.reg [(m18 5 0),
  (m18 6 1),
  (q18 7 (.call 293 [(.t 5), (.t 6)])),
  (q18 8 (.bop .geq (.t 7) (.c (.i .i64 0)))),
  (m18 4 8)])
  .ret))⟩
def ir18_320 : XF := ⟨18, 1, [(2, none)], (.seq (.reg [(q18 2 (.mv (.c (.i .i64 0))))])
  (.seq (.reg [(q18 3 (.mv (.c (.i .i64 0))))])
  (.seq (.seq (.reg [(m18 6 0),
  (q18 7 (.len 1 (.t 6))),
  (q18 8 (.mv (.c (.i .i64 0))))])
  (.blk 0 (.loop (.seq (.reg [(q18 9 (.bop .lss (.t 8) (.t 7)))])
  (.seq (.cond (.t 9) .skip
  (.exit 0))
  (.seq (.blk 1 (.seq (.reg [(q18 10 (.ia 1 (.t 6) (.t 8))),
  (l18 11 1 10),
  (m18 5 11)])
  (.seq (.reg [(m18 12 5),
  (m18 13 3),
  (q18 14 (.bop .neq (.t 12) (.t 13)))])
  (.cond (.t 14) (.seq (.reg [(m18 15 5),
  (m18 2 15)])
  .ret)
  .skip))))
  (.reg [(q18 16 (.bop .add (.t 8) (.c (.i .i64 1)))),
  (m18 8 16)])))))))
  (.seq (.reg [(m18 17 3),
  (m18 2 17)])
  .ret))))⟩
def ir18_321 : XF := ⟨20, 2, [(4, none)], (.seq (.reg [(q18 4 (.mv (.c (.i .i64 0))))])
  (.seq (.reg [(m18 7 0),
  (q18 8 (.call 351 [(.t 7)])),
  (m18 5 8)])
  (.seq (.reg [(m18 9 1),
  (q18 10 (.call 351 [(.t 9)])),
  (m18 6 10)])
  (.seq (.seq (.reg [(m18 11 5)])
  (.cond (.t 11) (.seq (.seq (.reg [(m18 12 6)])
  (.cond (.t 12) (.seq (.reg [(q18 4 (.mv (.c (.i .i64 0))))])
  .ret)
  .skip))
  (.seq (.reg [(q18 4 (.mv (.c (.i .i64 (-1)))))])
  .ret))
  .skip))
  (.seq (.seq (.reg [(m18 13 6)])
  (.cond (.t 13) (.seq (.reg [(q18 4 (.mv (.c (.i .i64 1))))])
  .ret)
  .skip))
  (.seq (.seq (.reg [(m18 14 0),
  (m18 15 1),
  (q18 16 (.bop .lss (.t 14) (.t 15)))])
  (.cond (.t 16) (.seq (.reg [(q18 4 (.mv (.c (.i .i64 (-1)))))])
  .ret)
  .skip))
  (.seq (.seq (.reg [(m18 17 0),
  (m18 18 1),
  (q18 19 (.bop .gtr (.t 17) (.t 18)))])
  (.cond (.t 19) (.seq (.reg [(q18 4 (.mv (.c (.i .i64 1))))])
  .ret)
  .skip))
  (.seq (.reg [(q18 4 (.mv (.c (.i .i64 0))))])
  .ret))))))))⟩
def ir18_322 : XF := ⟨20, 2, [(4, none)], (.seq (.reg [(q18 4 (.mv (.c (.i .i64 0))))])
  (.seq (.reg [(m18 7 0),
  (q18 8 (.call 352 [(.t 7)])),
  (m18 5 8)])
  (.seq (.reg [(m18 9 1),
  (q18 10 (.call 352 [(.t 9)])),
  (m18 6 10)])
  (.seq (.seq (.reg [(m18 11 5)])
  (.cond (.t 11) (.seq (.seq (.reg [(m18 12 6)])
  (.cond (.t 12) (.seq (.reg [(q18 4 (.mv (.c (.i .i64 0))))])
  .ret)
  .skip))
  (.seq (.reg [(q18 4 (.mv (.c (.i .i64 (-1)))))])
  .ret))
  .skip))
  (.seq (.seq (.reg [(m18 13 6)])
  (.cond (.t 13) (.seq (.reg [(q18 4 (.mv (.c (.i .i64 1))))])
  .ret)
  .skip))
  (.seq (.seq (.reg [(m18 14 0),
  (m18 15 1),
  (q18 16 (.bop .lss (.t 14) (.t 15)))])
  (.cond (.t 16) (.seq (.reg [(q18 4 (.mv (.c (.i .i64 (-1)))))])
  .ret)
  .skip))
  (.seq (.seq (.reg [(m18 17 0),
  (m18 18 1),
  (q18 19 (.bop .gtr (.t 17) (.t 18)))])
  (.cond (.t 19) (.seq (.reg [(q18 4 (.mv (.c (.i .i64 1))))])
  .ret)
  .skip))
  (.seq (.reg [(q18 4 (.mv (.c (.i .i64 0))))])
  .ret))))))))⟩
def ir18_323 : XF := ⟨36, 3, [(6, none)], (.seq (.reg [(q18 6 (.mv (.c (.i .i64 0))))])
  (.seq (.seq (.reg [(m18 9 0),
  (q18 10 (.len 1 (.t 9))),
  (m18 11 1),
  (q18 12 (.len 1 (.t 11))),
  (q18 13 (.mm false (.t 10) (.t 12))),
  (q18 14 (.mv (.c (.i .i64 0))))])
  (.blk 0 (.loop (.seq (.reg [(q18 15 (.bop .lss (.t 14) (.t 13)))])
  (.seq (.cond (.t 15) .skip
  (.exit 0))
  (.seq (.blk 1 (.seq (.reg [(m18 16 14),
  (m18 7 16)])
  (.seq (.par [(m18 17 2),
  (m18 18 0),
  (m18 19 7),
  (q18 20 (.ia 5 (.t 18) (.t 19))),
  (k18 21 5 20),
  (m18 22 1),
  (m18 23 7),
  (q18 24 (.ia 5 (.t 22) (.t 23))),
  (k18 25 5 24),
  (q18 26 (.callv (.t 17) [(.t 21), (.t 25)])),
  (m18 8 26)] [0, 0, 0, 6, 14, 0, 0, 96, 224, 511, 1023])
  (.seq (.reg [(m18 27 8),
  (q18 28 (.bop .neq (.t 27) (.c (.i .i64 0))))])
  (.cond (.t 28) (.seq (.reg [(m18 29 8),
  (m18 6 29)])
  .ret)
  .skip)))))
  (.reg [(q18 30 (.bop .add (.t 14) (.c (.i .i64 1)))),
  (m18 14 30)])))))))
  (.seq (.reg [(m18 31 0),
  (q18 32 (.len 1 (.t 31))),
  (m18 33 1),
  (q18 34 (.len 1 (.t 33))),
  (q18 35 (.call 321 [(.t 32), (.t 34)])),
  (m18 6 35)])
  .ret)))⟩
def ir18_324 : XF := ⟨19, 2, [(4, none)], (.seq (.reg [(q18 4 (.mv (.c (.i .i64 0))))])
  (.seq (.seq (.reg [(m18 6 0),
  (q18 7 (.len 1 (.t 6))),
  (q18 8 (.mv (.c (.i .i64 0))))])
  (.blk 0 (.loop (.seq (.reg [(q18 9 (.bop .lss (.t 8) (.t 7)))])
  (.seq (.cond (.t 9) .skip
  (.exit 0))
  (.seq (.blk 1 (.seq (.reg [(m18 10 8),
  (m18 5 10)])
  (.seq (.reg [(m18 11 1),
  (m18 12 0),
  (m18 13 5),
  (q18 14 (.ia 6 (.t 12) (.t 13))),
  (k18 15 6 14),
  (q18 16 (.callv (.t 11) [(.t 15)]))])
  (.cond (.t 16) (.seq (.reg [(m18 17 5),
  (m18 4 17)])
  .ret)
  .skip))))
  (.reg [(q18 18 (.bop .add (.t 8) (.c (.i .i64 1)))),
  (m18 8 18)])))))))
  (.seq (.reg [(q18 4 (.mv (.c (.i .i64 (-1)))))])
  .ret)))⟩
def ir18_327 : XF := ⟨13, 2, [(4, none)], (.seq (.reg [(q18 4 (.mv (.c (.s []))))])
  (.seq (.seq (.reg [(m18 5 0),
  (m18 6 1),
  (q18 7 (.call 358 [(.t 5), (.t 6)]))])
  (.cond (.t 7) (.seq (.reg [(m18 8 0),
  (m18 9 1),
  (q18 10 (.len 0 (.t 9))),
  (q18 11 (.slcS (.t 8) (some (.t 10)) none)),
  (m18 4 11)])
  .ret)
  .skip))
  (.seq (.reg [(m18 12 0),
  (m18 4 12)])
  .ret)))⟩
def ir18_328 : XF := ⟨40, 3, [(6, none), (7, none)], (.seq (.reg [(q18 3 (.box 39 5 (.t 0))),
  (q18 4 (.box 27 5 (.t 1))),
  (q18 6 (.mv (.c .sln))),
  (q18 7 (.mv (.c (.b false))))])
  (.seq (.reg [(m18 11 2),
  (f18 12 2 3),
  (l18 13 1 12),
  (q18 14 (.call 359 [(.t 11), (.t 13)])),
  (m18 10 14),
  (q18 15 (.ex (.t 10) 0)),
  (q18 16 (.ex (.t 10) 1)),
  (q18 8 (.box 27 5 (.c (.ag [(.i .i8 0), (.i .i64 0), (.s []), (.s []), .sln])))),
  ⟨none, none, .st 5 (.t 8) (.t 15)⟩,
  (m18 9 16)])
  (.seq (.blk 0 (.seq (.reg [(f18 18 2 3),
  (l18 19 1 18),
  (q18 20 (.bop .eql (.t 19) (.c (.s [95])))),
  (m18 17 20)])
  (.cond (.t 17) (.seq (.reg [(m18 21 2),
  (m18 6 21),
  (q18 7 (.mv (.c (.b true))))])
  .ret)
  (.seq (.reg [(m18 23 9),
  (m18 22 23)])
  (.cond (.t 22) (.seq (.reg [(m18 24 2),
  (k18 25 5 8),
  (k18 26 5 4),
  (q18 27 (.call 360 [(.t 25), (.t 26)])),
  (m18 6 24),
  (m18 7 27)])
  .ret)
  .skip)))))
  (.seq (.par [(m18 28 2),
  (m18 29 2),
  (q18 30 (.len 1 (.t 29))),
  (m18 31 2),
  (q18 32 (.len 1 (.t 31))),
  (q18 33 (.slc 6 (.t 28) none (some (.t 30)) (some (.t 32)))),
  (f18 34 2 3),
  (l18 35 1 34),
  (k18 36 5 4),
  (q18 37 (.bld [(.s []), (.i .i8 0), (.i .i64 0), (.s []), (.s []), .sln] [(0, 1, (.t 35)), (1, 5, (.t 36))])),
  (q18 38 (.bls 70 6 1 [(.s []), (.i .i8 0), (.i .i64 0), (.s []), (.s []), .sln] [(0, 6, (.t 37))])),
  (q18 39 (.app 70 6 (.t 33) (.t 38))),
  (m18 6 39),
  (q18 7 (.mv (.c (.b true))))] [0, 0, 2, 0, 8, 31, 0, 64, 0, 448, 960, 2047, 4095, 8191])
  .ret))))⟩
def ir18_329 : XF := ⟨4, 1, [(2, none)], (.seq (.reg [(q18 1 (.box 22 1 (.t 0))),
  (q18 2 (.mv (.c .fn)))])
  (.seq (.reg [(q18 3 (.mkf (.func 361) [] [(.t 1)])),
  (m18 2 3)])
  .ret))⟩
def ir18_330 : XF := ⟨4, 1, [(2, none)], (.seq (.reg [(q18 1 (.box 22 1 (.t 0))),
  (q18 2 (.mv (.c .fn)))])
  (.seq (.reg [(q18 3 (.mkf (.func 362) [] [(.t 1)])),
  (m18 2 3)])
  .ret))⟩
def ir18_331 : XF := ⟨48, 2, [(4, none)], (.seq (.reg [(q18 2 (.box 358 4 (.t 0))),
  (q18 4 (.mv (.c (.b false))))])
  (.seq (.reg [(f18 5 0 2),
  (l18 6 1 5),
  (m18 7 6),
  (g18 8 7 false (.mv (.t 1))),
  (g18 9 7 false (.nck (.t 8))),
  (g18 10 7 false (.fa 1 (.t 9))),
  (g18 11 7 false (.ld false 1 (.t 10))),
  (g18 12 7 false (.bop .eql (.t 11) (.c (.i .i64 0)))),
  (q18 13 (.pick (.t 7) (.c (.b true)) (.t 12))),
  (m18 14 13),
  (g18 15 14 true (.fa 1 (.t 2))),
  (g18 16 14 true (.ld false 1 (.t 15))),
  (g18 17 14 true (.mv (.t 16))),
  (g18 18 17 false (.mv (.t 1))),
  (g18 19 17 false (.nck (.t 18))),
  (g18 20 17 false (.fa 2 (.t 19))),
  (g18 21 17 false (.ld false 1 (.t 20))),
  (g18 22 17 false (.bop .eql (.t 21) (.c (.s [])))),
  (g18 23 14 true (.pick (.t 17) (.c (.b true)) (.t 22))),
  (q18 24 (.pick (.t 14) (.t 23) (.c (.b false)))),
  (m18 25 24),
  (g18 26 25 true (.fa 2 (.t 2))),
  (g18 27 25 true (.ld false 1 (.t 26))),
  (g18 28 25 true (.mv (.t 27))),
  (g18 29 28 false (.mv (.t 1))),
  (g18 30 28 false (.nck (.t 29))),
  (g18 31 28 false (.fa 3 (.t 30))),
  (g18 32 28 false (.ld false 1 (.t 31))),
  (g18 33 28 false (.bop .eql (.t 32) (.c (.s [])))),
  (g18 34 25 true (.pick (.t 28) (.c (.b true)) (.t 33))),
  (q18 35 (.pick (.t 25) (.t 34) (.c (.b false)))),
  (m18 36 35),
  (g18 37 36 true (.fa 3 (.t 2))),
  (g18 38 36 true (.ld false 1 (.t 37))),
  (g18 39 36 true (.mv (.t 38))),
  (g18 40 39 false (.mv (.t 1))),
  (g18 41 39 false (.nck (.t 40))),
  (g18 42 39 false (.fa 4 (.t 41))),
  (g18 43 39 false (.ld false 1 (.t 42))),
  (g18 44 39 false (.len 1 (.t 43))),
  (g18 45 39 false (.bop .eql (.t 44) (.c (.i .i64 0)))),
  (g18 46 36 true (.pick (.t 39) (.c (.b true)) (.t 45))),
  (q18 47 (.pick (.t 36) (.t 46) (.c (.b false)))),
  (m18 4 47)])
  .ret))⟩
def ir18_337 : XF := ⟨51, 2, [(4, none), (5, none)], (.seq (.reg [(q18 4 (.mv (.c (.i .u64 0)))),
  (q18 5 (.mv (.c (.i .u64 0))))])
  (.seq (.reg [(m18 14 0),
  (q18 15 (.bop .and (.t 14) (.c (.i .u64 4294967295)))),
  (m18 6 15)])
  (.seq (.reg [(m18 16 0),
  (q18 17 (.bop .shr (.t 16) (.c (.i .u64 32)))),
  (m18 7 17)])
  (.seq (.reg [(m18 18 1),
  (q18 19 (.bop .and (.t 18) (.c (.i .u64 4294967295)))),
  (m18 8 19)])
  (.seq (.reg [(m18 20 1),
  (q18 21 (.bop .shr (.t 20) (.c (.i .u64 32)))),
  (m18 9 21)])
  (.seq (.reg [(m18 22 6),
  (m18 23 8),
  (q18 24 (.bop .mul (.t 22) (.t 23))),
  (m18 10 24)])
  (.seq (.reg [(m18 25 7),
  (m18 26 8),
  (q18 27 (.bop .mul (.t 25) (.t 26))),
  (m18 28 10),
  (q18 29 (.bop .shr (.t 28) (.c (.i .u64 32)))),
  (q18 30 (.bop .add (.t 27) (.t 29))),
  (m18 11 30)])
  (.seq (.reg [(m18 31 11),
  (q18 32 (.bop .and (.t 31) (.c (.i .u64 4294967295)))),
  (m18 12 32)])
  (.seq (.reg [(m18 33 11),
  (q18 34 (.bop .shr (.t 33) (.c (.i .u64 32)))),
  (m18 13 34)])
  (.seq (.reg [(m18 35 12),
  (m18 36 6),
  (m18 37 9),
  (q18 38 (.bop .mul (.t 36) (.t 37))),
  (q18 39 (.bop .add (.t 35) (.t 38))),
  (m18 12 39)])
  (.seq (.reg [(m18 40 7),
  (m18 41 9),
  (q18 42 (.bop .mul (.t 40) (.t 41))),
  (m18 43 13),
  (q18 44 (.bop .add (.t 42) (.t 43))),
  (m18 45 12),
  (q18 46 (.bop .shr (.t 45) (.c (.i .u64 32)))),
  (q18 47 (.bop .add (.t 44) (.t 46))),
  (m18 4 47)])
  (.seq (.reg [(m18 48 0),
  (m18 49 1),
  (q18 50 (.bop .mul (.t 48) (.t 49))),
  (m18 5 50)])
  .ret))))))))))))⟩
def ir18_339 : XF := ⟨13, 1, [(2, none)], (.seq (.reg [(q18 2 (.mv (.c (.b false))))])
  (.seq (.reg [(q18 3 (.bld [(.b false), (.b false), (.b false), (.b false)] [(1, 1, (.c (.b true)))])),
  (m18 4 0),
  (q18 5 (.call 331 [(.t 3), (.t 4)])),
  (m18 6 5),
  (g18 7 6 true (.mv (.t 0))),
  (g18 8 6 true (.nck (.t 7))),
  (g18 9 6 true (.fa 2 (.t 8))),
  (g18 10 6 true (.ld false 1 (.t 9))),
  (g18 11 6 true (.call 340 [(.t 10)])),
  (q18 12 (.pick (.t 6) (.t 11) (.c (.b false)))),
  (m18 2 12)])
  .ret))⟩
def ir18_340 : XF := ⟨28, 1, [(2, none)], (.seq (.reg [(q18 2 (.mv (.c (.b false))))])
  (.seq (.seq (.reg [(m18 3 0),
  (q18 4 (.bop .eql (.t 3) (.c (.s [])))),
  (m18 5 4),
  (g18 6 5 false (.mv (.t 0))),
  (g18 7 5 false (.len 0 (.t 6))),
  (g18 8 5 false (.bop .gtr (.t 7) (.c (.i .i64 32)))),
  (q18 9 (.pick (.t 5) (.c (.b true)) (.t 8))),
  (m18 10 9),
  (g18 11 10 false (.mv (.t 0))),
  (g18 12 10 false (.ixS (.t 11) (.c (.i .i64 0)))),
  (g18 13 10 false (.bop .neq (.t 12) (.c (.i .u8 95)))),
  (g18 14 10 false (.mv (.t 13))),
  (g18 15 14 true (.mv (.t 0))),
  (g18 16 14 true (.ixS (.t 15) (.c (.i .i64 0)))),
  (g18 17 14 true (.bop .lss (.t 16) (.c (.i .u8 65)))),
  (g18 18 14 true (.mv (.t 17))),
  (g18 19 18 false (.mv (.t 0))),
  (g18 20 18 false (.ixS (.t 19) (.c (.i .i64 0)))),
  (g18 21 18 false (.bop .gtr (.t 20) (.c (.i .u8 90)))),
  (g18 22 14 true (.pick (.t 18) (.c (.b true)) (.t 21))),
  (g18 23 10 false (.pick (.t 14) (.t 22) (.c (.b false)))),
  (q18 24 (.pick (.t 10) (.c (.b true)) (.t 23)))])
  (.cond (.t 24) (.seq (.reg [(q18 2 (.mv (.c (.b false))))])
  .ret)
  .skip))
  (.seq (.reg [(m18 25 0),
  (q18 26 (.call 375 [(.t 25), (.c (.f (.func 376) [] []))])),
  (q18 27 (.un .not (.t 26))),
  (m18 2 27)])
  .ret)))⟩
def ir18_341 : XF := ⟨13, 1, [(2, none)], (.seq (.reg [(q18 2 (.mv (.c (.b false))))])
  (.seq (.reg [(q18 3 (.bld [(.b false), (.b false), (.b false), (.b false)] [(0, 1, (.c (.b true)))])),
  (m18 4 0),
  (q18 5 (.call 331 [(.t 3), (.t 4)])),
  (m18 6 5),
  (g18 7 6 true (.mv (.t 0))),
  (g18 8 6 true (.nck (.t 7))),
  (g18 9 6 true (.fa 1 (.t 8))),
  (g18 10 6 true (.ld false 1 (.t 9))),
  (g18 11 6 true (.call 151 [(.t 10)])),
  (q18 12 (.pick (.t 6) (.t 11) (.c (.b false)))),
  (m18 2 12)])
  .ret))⟩
def ir18_347 : XF := ⟨30, 2, [], (.seq (.reg [(q18 2 (.box 287 1 (.t 0)))])
  (.seq (.seq (.reg [(l18 5 1 2),
  (l18 6 1 1),
  (q18 7 (.callv (.t 5) [(.t 6)])),
  (q18 8 (.un .not (.t 7)))])
  (.cond (.t 8) .ret
  .skip))
  (.seq (.reg [(l18 9 1 1),
  (n18 10 9),
  (f18 11 4 10),
  (l18 12 1 11),
  (q18 13 (.len 1 (.t 12))),
  (q18 14 (.mv (.c (.i .i64 0))))])
  (.blk 0 (.loop (.seq (.reg [(q18 15 (.bop .lss (.t 14) (.t 13)))])
  (.seq (.cond (.t 15) .skip
  (.exit 0))
  (.seq (.blk 1 (.seq (.reg [(m18 16 14),
  (m18 3 16)])
  (.seq (.reg [(l18 17 1 1),
  (n18 18 17),
  (f18 19 4 18),
  (l18 20 1 19),
  (m18 21 3),
  (q18 22 (.ia 5 (.t 20) (.t 21))),
  (q18 23 (.call 316 [(.t 22)]))])
  (.blk 2 (.rng 30 (.t 23) [24] (.reg [(m18 4 24)]) (.blk 3 (.seq (.reg [(l18 25 1 2),
  (m18 26 4),
  (q18 27 (.callv (.t 25) [(.t 26)])),
  (q18 28 (.un .not (.t 27)))])
  (.cond (.t 28) .ret
  .skip))))))))
  (.reg [(q18 29 (.bop .add (.t 14) (.c (.i .i64 1)))),
  (m18 14 29)])))))))))⟩
def ir18_351 : XF := ⟨6, 1, [(2, none)], (.seq (.reg [(q18 2 (.mv (.c (.b false))))])
  (.seq (.reg [(m18 3 0),
  (m18 4 0),
  (q18 5 (.bop .neq (.t 3) (.t 4))),
  (m18 2 5)])
  .ret))⟩
def ir18_352 : XF := ⟨6, 1, [(2, none)], (.seq (.reg [(q18 2 (.mv (.c (.b false))))])
  (.seq (.reg [(m18 3 0),
  (m18 4 0),
  (q18 5 (.bop .neq (.t 3) (.t 4))),
  (m18 2 5)])
  .ret))⟩
def ir18_358 : XF := ⟨18, 2, [(4, none)], (.seq (.reg [(q18 4 (.mv (.c (.b false))))])
  (.seq (.reg [(m18 5 0),
  (q18 6 (.len 0 (.t 5))),
  (m18 7 1),
  (q18 8 (.len 0 (.t 7))),
  (q18 9 (.bop .geq (.t 6) (.t 8))),
  (m18 10 9),
  (g18 11 10 true (.mv (.t 0))),
  (g18 12 10 true (.mv (.t 1))),
  (g18 13 10 true (.len 0 (.t 12))),
  (g18 14 10 true (.slcS (.t 11) none (some (.t 13)))),
  (g18 15 10 true (.mv (.t 1))),
  (g18 16 10 true (.bop .eql (.t 14) (.t 15))),
  (q18 17 (.pick (.t 10) (.t 16) (.c (.b false)))),
  (m18 4 17)])
  .ret))⟩
def ir18_359 : XF := ⟨18, 2, [(4, some (true, 5)), (5, none)], (.seq (.reg [(q18 3 (.box 9 1 (.t 1))),
  (q18 4 (.box 27 5 (.c (.ag [(.i .i8 0), (.i .i64 0), (.s []), (.s []), .sln])))),
  (q18 5 (.mv (.c (.b false))))])
  (.seq (.reg [(m18 7 0),
  (q18 8 (.mkf (.func 391) [] [(.t 3)])),
  (q18 9 (.call 324 [(.t 7), (.t 8)])),
  (m18 6 9)])
  (.seq (.seq (.reg [(m18 10 6),
  (q18 11 (.bop .lss (.t 10) (.c (.i .i64 0))))])
  (.cond (.t 11) (.seq (.reg [(q18 12 (.bld [(.i .i8 0), (.i .i64 0), (.s []), (.s []), .sln] [])),
  ⟨none, none, .st 5 (.t 4) (.t 12)⟩,
  (q18 5 (.mv (.c (.b false))))])
  .ret)
  .skip))
  (.seq (.reg [(m18 13 0),
  (m18 14 6),
  (q18 15 (.ia 6 (.t 13) (.t 14))),
  (f18 16 1 15),
  (k18 17 5 16),
  ⟨none, none, .st 5 (.t 4) (.t 17)⟩,
  (q18 5 (.mv (.c (.b true))))])
  .ret))))⟩
def ir18_361 : XF := ⟨28, 4, [(7, none), (8, none)], (.seq (.reg [(q18 4 (.box 39 5 (.t 0))),
  (q18 5 (.box 27 5 (.t 1))),
  (q18 7 (.mv (.c .sln))),
  (q18 8 (.mv (.c (.b false))))])
  (.seq (.par [(m18 9 2),
  (f18 10 0 5),
  (l18 11 1 10),
  (l18 12 1 3),
  (q18 13 (.bop .eql (.t 11) (.t 12))),
  (m18 14 13),
  (g18 15 14 true (.fa 1 (.t 5))),
  (g18 16 14 true (.ld false 1 (.t 15))),
  (g18 17 14 true (.fa 1 (.t 4))),
  (g18 18 14 true (.ld false 1 (.t 17))),
  (g18 19 14 true (.bop .eql (.t 16) (.t 18))),
  (q18 20 (.pick (.t 14) (.t 19) (.c (.b false)))),
  (m18 21 20),
  (g18 22 21 true (.fa 2 (.t 5))),
  (g18 23 21 true (.ld false 1 (.t 22))),
  (g18 24 21 true (.fa 2 (.t 4))),
  (g18 25 21 true (.ld false 1 (.t 24))),
  (g18 26 21 true (.bop .eql (.t 23) (.t 25))),
  (q18 27 (.pick (.t 21) (.t 26) (.c (.b false)))),
  (m18 7 9),
  (m18 8 27)] [0, 0, 2, 0, 14, 30, 62, 126, 62, 318, 1022, 2046, 4094, 8190, 16382, 8190, 40958, 131070, 262142, 8191, 1048575])
  .ret))⟩
def ir18_375 : XF := ⟨9, 2, [(4, none)], (.seq (.reg [(q18 4 (.mv (.c (.b false))))])
  (.seq (.reg [(m18 5 0),
  (m18 6 1),
  (q18 7 (.call 396 [(.t 5), (.t 6)])),
  (q18 8 (.bop .geq (.t 7) (.c (.i .i64 0)))),
  (m18 4 8)])
  .ret))⟩
def ir18_376 : XF := ⟨29, 1, [(2, none)], (.seq (.reg [(q18 2 (.mv (.c (.b false))))])
  (.seq (.reg [(m18 3 0),
  (q18 4 (.bop .neq (.t 3) (.c (.i .i32 95)))),
  (m18 5 4),
  (g18 6 5 true (.mv (.t 0))),
  (g18 7 5 true (.bop .lss (.t 6) (.c (.i .i32 48)))),
  (g18 8 5 true (.mv (.t 7))),
  (g18 9 8 false (.mv (.t 0))),
  (g18 10 8 false (.bop .gtr (.t 9) (.c (.i .i32 57)))),
  (g18 11 5 true (.pick (.t 8) (.c (.b true)) (.t 10))),
  (q18 12 (.pick (.t 5) (.t 11) (.c (.b false)))),
  (m18 13 12),
  (g18 14 13 true (.mv (.t 0))),
  (g18 15 13 true (.bop .lss (.t 14) (.c (.i .i32 65)))),
  (g18 16 13 true (.mv (.t 15))),
  (g18 17 16 false (.mv (.t 0))),
  (g18 18 16 false (.bop .gtr (.t 17) (.c (.i .i32 90)))),
  (g18 19 13 true (.pick (.t 16) (.c (.b true)) (.t 18))),
  (q18 20 (.pick (.t 13) (.t 19) (.c (.b false)))),
  (m18 21 20),
  (g18 22 21 true (.mv (.t 0))),
  (g18 23 21 true (.bop .lss (.t 22) (.c (.i .i32 97)))),
  (g18 24 21 true (.mv (.t 23))),
  (g18 25 24 false (.mv (.t 0))),
  (g18 26 24 false (.bop .gtr (.t 25) (.c (.i .i32 122)))),
  (g18 27 21 true (.pick (.t 24) (.c (.b true)) (.t 26))),
  (q18 28 (.pick (.t 21) (.t 27) (.c (.b false)))),
  (m18 2 28)])
  .ret))⟩
def ir18_391 : XF := ⟨8, 2, [(3, none)], (.seq (.reg [(q18 2 (.box 70 6 (.t 0))),
  (q18 3 (.mv (.c (.b false))))])
  (.seq (.reg [(f18 4 0 2),
  (l18 5 1 4),
  (l18 6 1 1),
  (q18 7 (.bop .eql (.t 5) (.t 6))),
  (m18 3 7)])
  .ret))⟩
def ir18_396 : XF := ⟨8, 2, [(4, none)], (.seq (.reg [(q18 4 (.mv (.c (.i .i64 0))))])
  (.seq (.reg [(m18 5 0),
  (m18 6 1),
  (q18 7 (.call 399 [(.t 5), (.t 6), (.c (.b true))])),
  (m18 4 7)])
  .ret))⟩
def ir18_399 : XF := ⟨21, 3, [(6, none)], (.seq (.reg [(q18 6 (.mv (.c (.i .i64 0))))])
  (.seq (.seq (.reg [(m18 9 0),
  (q18 10 (.rgS (.t 9)))])
  (.blk 0 (.loop (.seq (.reg [(q18 11 (.nxS (.t 10))),
  (q18 12 (.ex (.t 11) 0))])
  (.seq (.cond (.t 12) .skip
  (.exit 0))
  (.blk 1 (.seq (.reg [(q18 13 (.ex (.t 11) 1)),
  (q18 14 (.ex (.t 11) 2)),
  (m18 7 13),
  (m18 8 14)])
  (.seq (.reg [(m18 15 1),
  (m18 16 8),
  (q18 17 (.callv (.t 15) [(.t 16)])),
  (m18 18 2),
  (q18 19 (.beq false (.t 17) (.t 18)))])
  (.cond (.t 19) (.seq (.reg [(m18 20 7),
  (m18 6 20)])
  .ret)
  .skip)))))))))
  (.seq (.reg [(q18 6 (.mv (.c (.i .i64 (-1)))))])
  .ret)))⟩
theorem irc18_179 : cFunc Tryz.prog Tryz.f179 = some ir18_179 := by kernel_rfl
theorem irc18_180 : cFunc Tryz.prog Tryz.f180 = some ir18_180 := by kernel_rfl
theorem irc18_181 : cFunc Tryz.prog Tryz.f181 = some ir18_181 := by kernel_rfl
theorem irc18_185 : cFunc Tryz.prog Tryz.f185 = some ir18_185 := by kernel_rfl
theorem irc18_186 : cFunc Tryz.prog Tryz.f186 = some ir18_186 := by kernel_rfl
theorem irc18_187 : cFunc Tryz.prog Tryz.f187 = some ir18_187 := by kernel_rfl
theorem irc18_188 : cFunc Tryz.prog Tryz.f188 = some ir18_188 := by kernel_rfl
theorem irc18_189 : cFunc Tryz.prog Tryz.f189 = some ir18_189 := by kernel_rfl
theorem irc18_190 : cFunc Tryz.prog Tryz.f190 = some ir18_190 := by kernel_rfl
theorem irc18_191 : cFunc Tryz.prog Tryz.f191 = some ir18_191 := by kernel_rfl
theorem irc18_192 : cFunc Tryz.prog Tryz.f192 = some ir18_192 := by kernel_rfl
theorem irc18_194 : cFunc Tryz.prog Tryz.f194 = some ir18_194 := by kernel_rfl
theorem irc18_195 : cFunc Tryz.prog Tryz.f195 = some ir18_195 := by kernel_rfl
theorem irc18_197 : cFunc Tryz.prog Tryz.f197 = some ir18_197 := by kernel_rfl
theorem irc18_198 : cFunc Tryz.prog Tryz.f198 = some ir18_198 := by kernel_rfl
theorem irc18_199 : cFunc Tryz.prog Tryz.f199 = some ir18_199 := by kernel_rfl
theorem irc18_200 : cFunc Tryz.prog Tryz.f200 = some ir18_200 := by kernel_rfl
theorem irc18_204 : cFunc Tryz.prog Tryz.f204 = some ir18_204 := by kernel_rfl
theorem irc18_205 : cFunc Tryz.prog Tryz.f205 = some ir18_205 := by kernel_rfl
theorem irc18_206 : cFunc Tryz.prog Tryz.f206 = some ir18_206 := by kernel_rfl
theorem irc18_209 : cFunc Tryz.prog Tryz.f209 = some ir18_209 := by kernel_rfl
theorem irc18_211 : cFunc Tryz.prog Tryz.f211 = some ir18_211 := by kernel_rfl
theorem irc18_214 : cFunc Tryz.prog Tryz.f214 = some ir18_214 := by kernel_rfl
theorem irc18_216 : cFunc Tryz.prog Tryz.f216 = some ir18_216 := by kernel_rfl
theorem irc18_217 : cFunc Tryz.prog Tryz.f217 = some ir18_217 := by kernel_rfl
theorem irc18_239 : cFunc Tryz.prog Tryz.f239 = some ir18_239 := by kernel_rfl
theorem irc18_240 : cFunc Tryz.prog Tryz.f240 = some ir18_240 := by kernel_rfl
theorem irc18_242 : cFunc Tryz.prog Tryz.f242 = some ir18_242 := by kernel_rfl
theorem irc18_253 : cFunc Tryz.prog Tryz.f253 = some ir18_253 := by kernel_rfl
theorem irc18_254 : cFunc Tryz.prog Tryz.f254 = some ir18_254 := by kernel_rfl
theorem irc18_255 : cFunc Tryz.prog Tryz.f255 = some ir18_255 := by kernel_rfl
theorem irc18_257 : cFunc Tryz.prog Tryz.f257 = some ir18_257 := by kernel_rfl
theorem irc18_259 : cFunc Tryz.prog Tryz.f259 = some ir18_259 := by kernel_rfl
theorem irc18_261 : cFunc Tryz.prog Tryz.f261 = some ir18_261 := by kernel_rfl
theorem irc18_262 : cFunc Tryz.prog Tryz.f262 = some ir18_262 := by kernel_rfl
theorem irc18_265 : cFunc Tryz.prog Tryz.f265 = some ir18_265 := by kernel_rfl
theorem irc18_266 : cFunc Tryz.prog Tryz.f266 = some ir18_266 := by kernel_rfl
theorem irc18_267 : cFunc Tryz.prog Tryz.f267 = some ir18_267 := by kernel_rfl
theorem irc18_269 : cFunc Tryz.prog Tryz.f269 = some ir18_269 := by kernel_rfl
theorem irc18_270 : cFunc Tryz.prog Tryz.f270 = some ir18_270 := by kernel_rfl
theorem irc18_271 : cFunc Tryz.prog Tryz.f271 = some ir18_271 := by kernel_rfl
theorem irc18_272 : cFunc Tryz.prog Tryz.f272 = some ir18_272 := by kernel_rfl
theorem irc18_273 : cFunc Tryz.prog Tryz.f273 = some ir18_273 := by kernel_rfl
theorem irc18_274 : cFunc Tryz.prog Tryz.f274 = some ir18_274 := by kernel_rfl
theorem irc18_275 : cFunc Tryz.prog Tryz.f275 = some ir18_275 := by kernel_rfl
theorem irc18_278 : cFunc Tryz.prog Tryz.f278 = some ir18_278 := by kernel_rfl
theorem irc18_282 : cFunc Tryz.prog Tryz.f282 = some ir18_282 := by kernel_rfl
theorem irc18_283 : cFunc Tryz.prog Tryz.f283 = some ir18_283 := by kernel_rfl
theorem irc18_284 : cFunc Tryz.prog Tryz.f284 = some ir18_284 := by kernel_rfl
theorem irc18_286 : cFunc Tryz.prog Tryz.f286 = some ir18_286 := by kernel_rfl
theorem irc18_287 : cFunc Tryz.prog Tryz.f287 = some ir18_287 := by kernel_rfl
theorem irc18_288 : cFunc Tryz.prog Tryz.f288 = some ir18_288 := by kernel_rfl
theorem irc18_289 : cFunc Tryz.prog Tryz.f289 = some ir18_289 := by kernel_rfl
theorem irc18_293 : cFunc Tryz.prog Tryz.f293 = some ir18_293 := by kernel_rfl
theorem irc18_297 : cFunc Tryz.prog Tryz.f297 = some ir18_297 := by kernel_rfl
theorem irc18_301 : cFunc Tryz.prog Tryz.f301 = some ir18_301 := by kernel_rfl
theorem irc18_302 : cFunc Tryz.prog Tryz.f302 = some ir18_302 := by kernel_rfl
theorem irc18_305 : cFunc Tryz.prog Tryz.f305 = some ir18_305 := by kernel_rfl
theorem irc18_306 : cFunc Tryz.prog Tryz.f306 = some ir18_306 := by kernel_rfl
theorem irc18_307 : cFunc Tryz.prog Tryz.f307 = some ir18_307 := by kernel_rfl
theorem irc18_310 : cFunc Tryz.prog Tryz.f310 = some ir18_310 := by kernel_rfl
theorem irc18_311 : cFunc Tryz.prog Tryz.f311 = some ir18_311 := by kernel_rfl
theorem irc18_312 : cFunc Tryz.prog Tryz.f312 = some ir18_312 := by kernel_rfl
theorem irc18_313 : cFunc Tryz.prog Tryz.f313 = some ir18_313 := by kernel_rfl
theorem irc18_314 : cFunc Tryz.prog Tryz.f314 = some ir18_314 := by kernel_rfl
theorem irc18_315 : cFunc Tryz.prog Tryz.f315 = some ir18_315 := by kernel_rfl
theorem irc18_316 : cFunc Tryz.prog Tryz.f316 = some ir18_316 := by kernel_rfl
theorem irc18_317 : cFunc Tryz.prog Tryz.f317 = some ir18_317 := by kernel_rfl
theorem irc18_320 : cFunc Tryz.prog Tryz.f320 = some ir18_320 := by kernel_rfl
theorem irc18_321 : cFunc Tryz.prog Tryz.f321 = some ir18_321 := by kernel_rfl
theorem irc18_322 : cFunc Tryz.prog Tryz.f322 = some ir18_322 := by kernel_rfl
theorem irc18_323 : cFunc Tryz.prog Tryz.f323 = some ir18_323 := by kernel_rfl
theorem irc18_324 : cFunc Tryz.prog Tryz.f324 = some ir18_324 := by kernel_rfl
theorem irc18_327 : cFunc Tryz.prog Tryz.f327 = some ir18_327 := by kernel_rfl
theorem irc18_328 : cFunc Tryz.prog Tryz.f328 = some ir18_328 := by kernel_rfl
theorem irc18_329 : cFunc Tryz.prog Tryz.f329 = some ir18_329 := by kernel_rfl
theorem irc18_330 : cFunc Tryz.prog Tryz.f330 = some ir18_330 := by kernel_rfl
theorem irc18_331 : cFunc Tryz.prog Tryz.f331 = some ir18_331 := by kernel_rfl
theorem irc18_337 : cFunc Tryz.prog Tryz.f337 = some ir18_337 := by kernel_rfl
theorem irc18_339 : cFunc Tryz.prog Tryz.f339 = some ir18_339 := by kernel_rfl
theorem irc18_340 : cFunc Tryz.prog Tryz.f340 = some ir18_340 := by kernel_rfl
theorem irc18_341 : cFunc Tryz.prog Tryz.f341 = some ir18_341 := by kernel_rfl
theorem irc18_347 : cFunc Tryz.prog Tryz.f347 = some ir18_347 := by kernel_rfl
theorem irc18_351 : cFunc Tryz.prog Tryz.f351 = some ir18_351 := by kernel_rfl
theorem irc18_352 : cFunc Tryz.prog Tryz.f352 = some ir18_352 := by kernel_rfl
theorem irc18_358 : cFunc Tryz.prog Tryz.f358 = some ir18_358 := by kernel_rfl
theorem irc18_359 : cFunc Tryz.prog Tryz.f359 = some ir18_359 := by kernel_rfl
theorem irc18_361 : cFunc Tryz.prog Tryz.f361 = some ir18_361 := by kernel_rfl
theorem irc18_375 : cFunc Tryz.prog Tryz.f375 = some ir18_375 := by kernel_rfl
theorem irc18_376 : cFunc Tryz.prog Tryz.f376 = some ir18_376 := by kernel_rfl
theorem irc18_391 : cFunc Tryz.prog Tryz.f391 = some ir18_391 := by kernel_rfl
theorem irc18_396 : cFunc Tryz.prog Tryz.f396 = some ir18_396 := by kernel_rfl
theorem irc18_399 : cFunc Tryz.prog Tryz.f399 = some ir18_399 := by kernel_rfl
end Go.Proofs.YtkieoghkjjkapaaGreatDoor.Sx
