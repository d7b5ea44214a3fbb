/- almonerref13.Apply. Printed by gen_f9.py. -/
import Derived.Test.YtdfelohjdkcpkaaGreatDoorKK21
import Derived.Test.YtdfelohjdkcpkaaGreatDoorKK22
import Derived.Test.YtdfelohjdkcpkaaGreatDoorKK23
import Derived.Test.YtdfelohjdkcpkaaGreatDoorKK24
import Derived.Maps.RangeWalk
import Derived.Maps.OwnSet
set_option maxRecDepth 100000
set_option maxHeartbeats 12800000
namespace Go.Proofs.YtdfelohjdkcpkaaGreatDoor
open Go.RowKit
theorem JY {n:Nat} (T T2:TM) (w w7:World) (o:A8) (oa:Option Addr) (oc nb:Nat) (x:Ax) (b:Bool) (V:Ab × Int × Int) (u6 u8 u22 u23 u24 u25 u26 u27 u28 u29 u30 u31 u32 u33 u34 u35 u36 u37 u38 u39 u40 u41 u42 u43 u44 u45 u46 u47 u48 u49 u50 u51 u52 u53 u54 u55 u56 u57 u58 u59 u60 u61 u62 u63 u64 u65 u66 u67 u68 u69 u70 u71 u72 u73 u74 u75 u76 u77 u78 u79 u80 u81 u82 u83 u84 u85 u86 u87 u88 u89 u90 u91 u92 u93 u94 u95 u96 u97 u98 u99 u100 u101 u102 u103 u104 u105 u106 u107 u108 u109 u110 u111 u112 u113 u114 u115 u116 u117 u118 u119 u120 u121 u122 u123 u124 u125 u126 u127 u128 u129 u130 u131 u132 u133 u134 u135 u136 u137 u138 u139 u140 u141 u142 u143 u144 u145 u146 u147 u148 u149 u150 u151 u152 u153 u154 u155 u156 u157 u160 u161 u162 u163 u164 u165 u166 u167 u168 u169 u170 u171 u172 u173 u174 u175 u176 u177 u178 u179 u180 u181 u182 u183 u184 u185 u186 u187 u188 u189 u190 u191 u192 u193 u194 u195 u196 u197 u198 u199 u200 u201 u202 u203 u204 u205 u206 u207 u208 u209 u210 u211 u212 u213 u214 u215 u216 u217 u218 u219 u220 u221 u222 u223 u225 u226 u227 u228 u229 u230 u231 u232 u233 u234 u235 u236 u237 u238 u239 u240 u241 u242 u243 u244 u245 u246 u247 u248 u249 u250 u251 u252 u255 u256 u257 u258 u259 u260 u261 u262 u263 u264 u265 u266 u267 u268 u269 u270 u271 u272 u273 u274 u275 u276 u277 u278 u279 u280 u281 u282 u283 u284 u285 u286 u287 u288 u289 u290 u292 u293 u294 u298 u299 u300 u301 u302 u303 u304 u305 u306 u307 u308 u309 u310 u311 u312 u313 u314 u315 u316 u317 u318 u319 u320 u321 u322 u323 u324 u325 u326 u327 u328 u329 u330 u331 u332 u333 u334 u335 u336 u337 u338 u339 u340 u341 u342 u343 u344 u345 u346 u347 u348 u349 u350 u351 u352 u353 u354 u355 u356 u357 u358 u359 u360 u361 u362 u363 u364 u365 u366 u367 u368 u371 u372 u373 u374 u375 u376 u377 u378 u379 u380 u381 u382 u383 u384 u385 u386 u387 u388 u389 u390 u391 u392 u393 u394 u395 u396 u397 u398 u399 u400 u401 u402:Value) (hval:V = if o.kd = 1 then T2.v.create o else if o.kd = 2 then T2.v.resize o else if o.kd = 3 then T2.v.remove o else T2.v.bind o) (hS7:Ek w #[.int .i64 o.kd,.int .i64 o.id,.int .i64 o.srv.k,.int .i64 o.srv.q,.int .i64 o.srv.t,.int .i64 o.pol,.slice oa o.tasks.length oc,.int .i64 o.at_] w7 T2) (hN7:Ag w7 nb #[.int .i64 x.e.id,.int .i64 x.e.par,.int .i64 x.e.srv.k,.int .i64 x.e.srv.q,.int .i64 x.e.srv.t,.int .i64 x.e.pol,.slice x.a x.e.tasks.length x.c] 39) (hfb1:b = true→∃ i,Fl T2.N o.id i x) (hfb0:b = false→x = GS∧∀ y ∈ T2.N,y.e.id ≠ o.id) (hpf:((T2.v.find o.id).map (·.pol)).getD 0 = x.e.pol) (hS2s:Bq n T2.v) (hF2:C0 T2.v) (hsrt:EF T2.N) (hlow:LF T2.N) (hge1:∀ x ∈ T2.N,1≤x.e.id) (hnr:∀ k,(Value.slice T2.an T2.N.length T2.cn).ownBlock = some k→k < nb) (hnbz:w.heap.size + 4≤nb) (hl0:0≤T2.last) (hl6:T2.last≤1000000) (hn0:0≤T2.now) (hn1:T2.now≤1099511627776) (hgl:T2.G.length < 1000000) (hl1:T2.N.length≤1000000) (hta:Al 4 AA.cells w oa o.tasks) (hom:o.tasks.length * 32≤140737488351232) (hk1:1≤o.kd) (hk4:o.kd≤4) :
 Code.wp Tryz.prog ((Tryz.f14.body.bind (BA 15)).getD .skip) (bodyPost Tryz.prog Tryz.f14 (DA V w)) ⟨#[.agg T.row,.agg #[.int .i64 o.kd,.int .i64 o.id,.int .i64 o.srv.k,.int .i64 o.srv.q,.int .i64 o.srv.t,.int .i64 o.pol,.slice oa o.tasks.length oc,.int .i64 o.at_],.pointer (some ⟨w.heap.size,0,none⟩),.pointer (some ⟨w.heap.size + 1,0,none⟩),.pointer (some ⟨w.heap.size + 1 + 1,0,none⟩),.pointer (some ⟨w.heap.size + 1 + 1 + 1,0,none⟩),u6,undef,u8,.pointer (some ⟨nb,0,none⟩),.bool b,undef,undef,undef,undef,undef,undef,undef,undef,undef,undef,undef,u22,u23,u24,u25,u26,u27,u28,u29,u30,u31,u32,u33,u34,u35,u36,u37,u38,u39,u40,u41,u42,u43,u44,u45,u46,u47,u48,u49,u50,u51,u52,u53,u54,u55,u56,u57,u58,u59,u60,u61,u62,u63,u64,u65,u66,u67,u68,u69,u70,u71,u72,u73,u74,u75,u76,u77,u78,u79,u80,u81,u82,u83,u84,u85,u86,u87,u88,u89,u90,u91,u92,u93,u94,u95,u96,u97,u98,u99,u100,u101,u102,u103,u104,u105,u106,u107,u108,u109,u110,u111,u112,u113,u114,u115,u116,u117,u118,u119,u120,u121,u122,u123,u124,u125,u126,u127,u128,u129,u130,u131,u132,u133,u134,u135,u136,u137,u138,u139,u140,u141,u142,u143,u144,u145,u146,u147,u148,u149,u150,u151,u152,u153,u154,u155,u156,u157,undef,undef,u160,u161,u162,u163,u164,u165,u166,u167,u168,u169,u170,u171,u172,u173,u174,u175,u176,u177,u178,u179,u180,u181,u182,u183,u184,u185,u186,u187,u188,u189,u190,u191,u192,u193,u194,u195,u196,u197,u198,u199,u200,u201,u202,u203,u204,u205,u206,u207,u208,u209,u210,u211,u212,u213,u214,u215,u216,u217,u218,u219,u220,u221,u222,u223,undef,u225,u226,u227,u228,u229,u230,u231,u232,u233,u234,u235,u236,u237,u238,u239,u240,u241,u242,u243,u244,u245,u246,u247,u248,u249,u250,u251,u252,undef,undef,u255,u256,u257,u258,u259,u260,u261,u262,u263,u264,u265,u266,u267,u268,u269,u270,u271,u272,u273,u274,u275,u276,u277,u278,u279,u280,u281,u282,u283,u284,u285,u286,u287,u288,u289,u290,undef,u292,u293,u294,undef,undef,undef,u298,u299,u300,u301,u302,u303,u304,u305,u306,u307,u308,u309,u310,u311,u312,u313,u314,u315,u316,u317,u318,u319,u320,u321,u322,u323,u324,u325,u326,u327,u328,u329,u330,u331,u332,u333,u334,u335,u336,u337,u338,u339,u340,u341,u342,u343,u344,u345,u346,u347,u348,u349,u350,u351,u352,u353,u354,u355,u356,u357,u358,u359,u360,u361,u362,u363,u364,u365,u366,u367,u368,undef,undef,u371,u372,u373,u374,u375,u376,u377,u378,u379,u380,u381,u382,u383,u384,u385,u386,u387,u388,u389,u390,u391,u392,u393,u394,u395,u396,u397,u398,u399,u400,u401,u402],[]⟩ w7:=by
 by_cases k1:o.kd = 1
 ·exact H1 T T2 w w7 o oa oc nb x b V u6 u8 u22 u23 u24 u25 u26 u27 u28 u29 u30 u31 u32 u33 u34 u35 u36 u37 u38 u39 u40 u41 u42 u43 u44 u45 u46 u47 u48 u49 u50 u51 u52 u53 u54 u55 u56 u57 u58 u59 u60 u61 u62 u63 u64 u65 u66 u67 u68 u69 u70 u71 u72 u73 u74 u75 u76 u77 u78 u79 u80 u81 u82 u83 u84 u85 u86 u87 u88 u89 u90 u91 u92 u93 u94 u95 u96 u97 u98 u99 u100 u101 u102 u103 u104 u105 u106 u107 u108 u109 u110 u111 u112 u113 u114 u115 u116 u117 u118 u119 u120 u121 u122 u123 u124 u125 u126 u127 u128 u129 u130 u131 u132 u133 u134 u135 u136 u137 u138 u139 u140 u141 u142 u143 u144 u145 u146 u147 u148 u149 u150 u151 u152 u153 u154 u155 u156 u157 u160 u161 u162 u163 u164 u165 u166 u167 u168 u169 u170 u171 u172 u173 u174 u175 u176 u177 u178 u179 u180 u181 u182 u183 u184 u185 u186 u187 u188 u189 u190 u191 u192 u193 u194 u195 u196 u197 u198 u199 u200 u201 u202 u203 u204 u205 u206 u207 u208 u209 u210 u211 u212 u213 u214 u215 u216 u217 u218 u219 u220 u221 u222 u223 u225 u226 u227 u228 u229 u230 u231 u232 u233 u234 u235 u236 u237 u238 u239 u240 u241 u242 u243 u244 u245 u246 u247 u248 u249 u250 u251 u252 u255 u256 u257 u258 u259 u260 u261 u262 u263 u264 u265 u266 u267 u268 u269 u270 u271 u272 u273 u274 u275 u276 u277 u278 u279 u280 u281 u282 u283 u284 u285 u286 u287 u288 u289 u290 u292 u293 u294 u298 u299 u300 u301 u302 u303 u304 u305 u306 u307 u308 u309 u310 u311 u312 u313 u314 u315 u316 u317 u318 u319 u320 u321 u322 u323 u324 u325 u326 u327 u328 u329 u330 u331 u332 u333 u334 u335 u336 u337 u338 u339 u340 u341 u342 u343 u344 u345 u346 u347 u348 u349 u350 u351 u352 u353 u354 u355 u356 u357 u358 u359 u360 u361 u362 u363 u364 u365 u366 u367 u368 u371 u372 u373 u374 u375 u376 u377 u378 u379 u380 u381 u382 u383 u384 u385 u386 u387 u388 u389 u390 u391 u392 u393 u394 u395 u396 u397 u398 u399 u400 u401 u402 hval hS7 hN7 hfb1 hfb0 hpf hS2s hF2 hlow hge1 hl0 hl6 hn0 hn1 hgl hl1 k1
 by_cases k2:o.kd = 2
 ·exact HZ T T2 w w7 o oa oc nb x b V u6 u8 u22 u23 u24 u25 u26 u27 u28 u29 u30 u31 u32 u33 u34 u35 u36 u37 u38 u39 u40 u41 u42 u43 u44 u45 u46 u47 u48 u49 u50 u51 u52 u53 u54 u55 u56 u57 u58 u59 u60 u61 u62 u63 u64 u65 u66 u67 u68 u69 u70 u71 u72 u73 u74 u75 u76 u77 u78 u79 u80 u81 u82 u83 u84 u85 u86 u87 u88 u89 u90 u91 u92 u93 u94 u95 u96 u97 u98 u99 u100 u101 u102 u103 u104 u105 u106 u107 u108 u109 u110 u111 u112 u113 u114 u115 u116 u117 u118 u119 u120 u121 u122 u123 u124 u125 u126 u127 u128 u129 u130 u131 u132 u133 u134 u135 u136 u137 u138 u139 u140 u141 u142 u143 u144 u145 u146 u147 u148 u149 u150 u151 u152 u153 u154 u155 u156 u157 u160 u161 u162 u163 u164 u165 u166 u167 u168 u169 u170 u171 u172 u173 u174 u175 u176 u177 u178 u179 u180 u181 u182 u183 u184 u185 u186 u187 u188 u189 u190 u191 u192 u193 u194 u195 u196 u197 u198 u199 u200 u201 u202 u203 u204 u205 u206 u207 u208 u209 u210 u211 u212 u213 u214 u215 u216 u217 u218 u219 u220 u221 u222 u223 u225 u226 u227 u228 u229 u230 u231 u232 u233 u234 u235 u236 u237 u238 u239 u240 u241 u242 u243 u244 u245 u246 u247 u248 u249 u250 u251 u252 u255 u256 u257 u258 u259 u260 u261 u262 u263 u264 u265 u266 u267 u268 u269 u270 u271 u272 u273 u274 u275 u276 u277 u278 u279 u280 u281 u282 u283 u284 u285 u286 u287 u288 u289 u290 u292 u293 u294 u298 u299 u300 u301 u302 u303 u304 u305 u306 u307 u308 u309 u310 u311 u312 u313 u314 u315 u316 u317 u318 u319 u320 u321 u322 u323 u324 u325 u326 u327 u328 u329 u330 u331 u332 u333 u334 u335 u336 u337 u338 u339 u340 u341 u342 u343 u344 u345 u346 u347 u348 u349 u350 u351 u352 u353 u354 u355 u356 u357 u358 u359 u360 u361 u362 u363 u364 u365 u366 u367 u368 u371 u372 u373 u374 u375 u376 u377 u378 u379 u380 u381 u382 u383 u384 u385 u386 u387 u388 u389 u390 u391 u392 u393 u394 u395 u396 u397 u398 u399 u400 u401 u402 hval hS7 hN7 hfb1 hfb0 hS2s hF2 hsrt hlow hge1 hnr hnbz hn0 hn1 hgl hl1 k2
 by_cases k3:o.kd = 3
 ·exact H0 T T2 w w7 o oa oc nb x b V u6 u8 u22 u23 u24 u25 u26 u27 u28 u29 u30 u31 u32 u33 u34 u35 u36 u37 u38 u39 u40 u41 u42 u43 u44 u45 u46 u47 u48 u49 u50 u51 u52 u53 u54 u55 u56 u57 u58 u59 u60 u61 u62 u63 u64 u65 u66 u67 u68 u69 u70 u71 u72 u73 u74 u75 u76 u77 u78 u79 u80 u81 u82 u83 u84 u85 u86 u87 u88 u89 u90 u91 u92 u93 u94 u95 u96 u97 u98 u99 u100 u101 u102 u103 u104 u105 u106 u107 u108 u109 u110 u111 u112 u113 u114 u115 u116 u117 u118 u119 u120 u121 u122 u123 u124 u125 u126 u127 u128 u129 u130 u131 u132 u133 u134 u135 u136 u137 u138 u139 u140 u141 u142 u143 u144 u145 u146 u147 u148 u149 u150 u151 u152 u153 u154 u155 u156 u157 u160 u161 u162 u163 u164 u165 u166 u167 u168 u169 u170 u171 u172 u173 u174 u175 u176 u177 u178 u179 u180 u181 u182 u183 u184 u185 u186 u187 u188 u189 u190 u191 u192 u193 u194 u195 u196 u197 u198 u199 u200 u201 u202 u203 u204 u205 u206 u207 u208 u209 u210 u211 u212 u213 u214 u215 u216 u217 u218 u219 u220 u221 u222 u223 u225 u226 u227 u228 u229 u230 u231 u232 u233 u234 u235 u236 u237 u238 u239 u240 u241 u242 u243 u244 u245 u246 u247 u248 u249 u250 u251 u252 u255 u256 u257 u258 u259 u260 u261 u262 u263 u264 u265 u266 u267 u268 u269 u270 u271 u272 u273 u274 u275 u276 u277 u278 u279 u280 u281 u282 u283 u284 u285 u286 u287 u288 u289 u290 u292 u293 u294 u298 u299 u300 u301 u302 u303 u304 u305 u306 u307 u308 u309 u310 u311 u312 u313 u314 u315 u316 u317 u318 u319 u320 u321 u322 u323 u324 u325 u326 u327 u328 u329 u330 u331 u332 u333 u334 u335 u336 u337 u338 u339 u340 u341 u342 u343 u344 u345 u346 u347 u348 u349 u350 u351 u352 u353 u354 u355 u356 u357 u358 u359 u360 u361 u362 u363 u364 u365 u366 u367 u368 u371 u372 u373 u374 u375 u376 u377 u378 u379 u380 u381 u382 u383 u384 u385 u386 u387 u388 u389 u390 u391 u392 u393 u394 u395 u396 u397 u398 u399 u400 u401 u402 hval hS7 hN7 hfb1 hfb0 hS2s hF2 hsrt hlow hge1 hnr hnbz hn0 hn1 hgl hl1 k3
 have k4:o.kd = 4:=by omega
 exact J0 T T2 w w7 o oa oc nb x b V u6 u8 u22 u23 u24 u25 u26 u27 u28 u29 u30 u31 u32 u33 u34 u35 u36 u37 u38 u39 u40 u41 u42 u43 u44 u45 u46 u47 u48 u49 u50 u51 u52 u53 u54 u55 u56 u57 u58 u59 u60 u61 u62 u63 u64 u65 u66 u67 u68 u69 u70 u71 u72 u73 u74 u75 u76 u77 u78 u79 u80 u81 u82 u83 u84 u85 u86 u87 u88 u89 u90 u91 u92 u93 u94 u95 u96 u97 u98 u99 u100 u101 u102 u103 u104 u105 u106 u107 u108 u109 u110 u111 u112 u113 u114 u115 u116 u117 u118 u119 u120 u121 u122 u123 u124 u125 u126 u127 u128 u129 u130 u131 u132 u133 u134 u135 u136 u137 u138 u139 u140 u141 u142 u143 u144 u145 u146 u147 u148 u149 u150 u151 u152 u153 u154 u155 u156 u157 u160 u161 u162 u163 u164 u165 u166 u167 u168 u169 u170 u171 u172 u173 u174 u175 u176 u177 u178 u179 u180 u181 u182 u183 u184 u185 u186 u187 u188 u189 u190 u191 u192 u193 u194 u195 u196 u197 u198 u199 u200 u201 u202 u203 u204 u205 u206 u207 u208 u209 u210 u211 u212 u213 u214 u215 u216 u217 u218 u219 u220 u221 u222 u223 u225 u226 u227 u228 u229 u230 u231 u232 u233 u234 u235 u236 u237 u238 u239 u240 u241 u242 u243 u244 u245 u246 u247 u248 u249 u250 u251 u252 u255 u256 u257 u258 u259 u260 u261 u262 u263 u264 u265 u266 u267 u268 u269 u270 u271 u272 u273 u274 u275 u276 u277 u278 u279 u280 u281 u282 u283 u284 u285 u286 u287 u288 u289 u290 u292 u293 u294 u298 u299 u300 u301 u302 u303 u304 u305 u306 u307 u308 u309 u310 u311 u312 u313 u314 u315 u316 u317 u318 u319 u320 u321 u322 u323 u324 u325 u326 u327 u328 u329 u330 u331 u332 u333 u334 u335 u336 u337 u338 u339 u340 u341 u342 u343 u344 u345 u346 u347 u348 u349 u350 u351 u352 u353 u354 u355 u356 u357 u358 u359 u360 u361 u362 u363 u364 u365 u366 u367 u368 u371 u372 u373 u374 u375 u376 u377 u378 u379 u380 u381 u382 u383 u384 u385 u386 u387 u388 u389 u390 u391 u392 u393 u394 u395 u396 u397 u398 u399 u400 u401 u402 hval hS7 hN7 hfb1 hfb0 hS2s hF2 hsrt hlow hge1 hnr hl1 k4 hta hom
theorem JZ (T:TM) (w:World) (hT:Av Any w T) {n:Nat} (hSn:Bq n T.v) (hFt:C0 T.v) (hn:n < 1000000) (o:A8) (oa:Option Addr) (oc:Nat) (hta:Al 4 AA.cells w oa o.tasks) (hom:o.tasks.length * 32≤140737488351232) (hg:¬ (o.kd < 1 ∨ 4 < o.kd ∨ o.at_ < 0 ∨ 1099511627776 < o.at_)) :
 Calls Tryz.prog 14 #[.agg T.row,.agg #[.int .i64 o.kd,.int .i64 o.id,.int .i64 o.srv.k,.int .i64 o.srv.q,.int .i64 o.srv.t,.int .i64 o.pol,.slice oa o.tasks.length oc,.int .i64 o.at_]] w (DA (T.v.apply o) w):=by
 replace hta:=zH hta;replace hom:=zH hom;have hk1:1≤o.kd:=by omega
 have hk4:o.kd≤4:=by omega
 have ha0:0≤o.at_:=by omega
 have ha1:o.at_≤1099511627776:=by omega
 obtain ⟨V,hV⟩:=zE (T.v.apply o);rw [← hV];obtain ⟨W,hW⟩:=zE ((((w.alloc (.cells #[.slice T.an T.N.length T.cn,.slice T.ag T.G.length T.cg,.int .i64 T.last,.int .i64 T.now] 27)).alloc (.cells #[.int .i64 o.kd,.int .i64 o.id,.int .i64 o.srv.k,.int .i64 o.srv.q,.int .i64 o.srv.t,.int .i64 o.pol,.slice oa o.tasks.length oc,.int .i64 o.at_] 32)).alloc (.cells #[.slice none 0 0,.slice none 0 0,.int .i64 0,.int .i64 0] 27)).alloc (.cells #[.int .i64 0,.int .i64 0] 34));have gW:Gr w W:=by rw [hW];exact ((((Gr.refl w).alloc _).alloc _).alloc _).alloc _
 have hO:Ag W (w.heap.size) #[.slice T.an T.N.length T.cn,.slice T.ag T.G.length T.cg,.int .i64 T.last,.int .i64 T.now] 27:=by
  rw [hW];exact (((Ag.n0).alloc _).alloc _).alloc _
 have hC:Ag W (w.heap.size + 1) #[.int .i64 o.kd,.int .i64 o.id,.int .i64 o.srv.k,.int .i64 o.srv.q,.int .i64 o.srv.t,.int .i64 o.pol,.slice oa o.tasks.length oc,.int .i64 o.at_] 32:=by
  rw [hW];exact ((Ag.n1).alloc _).alloc _
 have hP:Ag W (w.heap.size + 1 + 1) #[.slice none 0 0,.slice none 0 0,.int .i64 0,.int .i64 0] 27:=by
  rw [hW];exact (Ag.n2).alloc _
 have hR:Ag W (w.heap.size + 1 + 1 + 1) #[.int .i64 0,.int .i64 0] 34:=by
  rw [hW];exact Ag.n3
 have hWz:W.heap.size = w.heap.size + 4:=by rw [hW];simp
 have hcp:=It T W (hT.gr gW);obtain ⟨o0,o1,o2,o3⟩:=hO.c4;refine Br ?_ hW hO hC hP hR hcp hT hV;clear hW hO hC hP hR hcp hT hV;intro hW hO hC hP hR hcp hT hV;go_enter Tryz.func14,Tryz.ntmps14;go_upto_region 1 with fail
 rw [← hW.out];go_wp2_with fail;refine hcp.out.mono ?_;rintro e w1 ⟨T1,rfl,hv1,hT1,g1⟩;have hO1:=hO.out.gr g1;have hC1:=hC.out.gr g1;have hP1:=hP.out.gr g1;have hR1:=hR.out.gr g1;have g1z:=g1.size;clear o0 o1 o2 o3;obtain ⟨o0,o1,o2,o3⟩:=hO1.c4;have fo:=fun i => hO1.free i
 refine Dn ?_ hO1 hC1 hP1 hR1 hT1 hv1;clear hO1 hC1 hP1 hR1 hT1 hv1;intro hO1 hC1 hP1 hR1 hT1 hv1;go_upto_region 2 with fail
 clear o0 o1 o2 o3 fo;obtain ⟨w2,hw2⟩:=zE ((((w1.setCell ⟨w.heap.size,0,none⟩ (.slice T1.an T1.N.length T1.cn)).setCell ⟨w.heap.size,1,none⟩ (.slice T1.ag T1.G.length T1.cg)).setCell ⟨w.heap.size,2,none⟩ (.int .i64 T1.last)).setCell ⟨w.heap.size,3,none⟩ (.int .i64 T1.now));rw [← hw2];have gxw2:Aw [w.heap.size] w1 w2:=by
  rw [hw2];exact (((((Aw.refl _ _).set (.inl (by simp)) _).set (.inl (by simp)) _).set (.inl (by simp)) _).set (.inl (by simp)) _)
 have hO2:Ag w2 (w.heap.size) #[.slice T1.an T1.N.length T1.cn,.slice T1.ag T1.G.length T1.cg,.int .i64 T1.last,.int .i64 T1.now] 27:=by
  rw [hw2];exact ((((hO1.out.set 0 (.slice T1.an T1.N.length T1.cn)).set 1 (.slice T1.ag T1.G.length T1.cg)).set 2 (.int .i64 T1.last)).set 3 (.int .i64 T1.now))
 have hC2:Ag w2 (w.heap.size + 1) #[.int .i64 o.kd,.int .i64 o.id,.int .i64 o.srv.k,.int .i64 o.srv.q,.int .i64 o.srv.t,.int .i64 o.pol,.slice oa o.tasks.length oc,.int .i64 o.at_] 32:=by
  rw [hw2];exact ((((hC1.out.other (a:=⟨w.heap.size,0,none⟩) (by show w.heap.size + 1 ≠ w.heap.size;omega) (.slice T1.an T1.N.length T1.cn)).other (a:=⟨w.heap.size,1,none⟩) (by show w.heap.size + 1 ≠ w.heap.size;omega) (.slice T1.ag T1.G.length T1.cg)).other (a:=⟨w.heap.size,2,none⟩) (by show w.heap.size + 1 ≠ w.heap.size;omega) (.int .i64 T1.last)).other (a:=⟨w.heap.size,3,none⟩) (by show w.heap.size + 1 ≠ w.heap.size;omega) (.int .i64 T1.now))
 have hP2:Ag w2 (w.heap.size + 1 + 1) #[.slice none 0 0,.slice none 0 0,.int .i64 0,.int .i64 0] 27:=by
  rw [hw2];exact ((((hP1.out.other (a:=⟨w.heap.size,0,none⟩) (by show w.heap.size + 1 + 1 ≠ w.heap.size;omega) (.slice T1.an T1.N.length T1.cn)).other (a:=⟨w.heap.size,1,none⟩) (by show w.heap.size + 1 + 1 ≠ w.heap.size;omega) (.slice T1.ag T1.G.length T1.cg)).other (a:=⟨w.heap.size,2,none⟩) (by show w.heap.size + 1 + 1 ≠ w.heap.size;omega) (.int .i64 T1.last)).other (a:=⟨w.heap.size,3,none⟩) (by show w.heap.size + 1 + 1 ≠ w.heap.size;omega) (.int .i64 T1.now))
 have hR2:Ag w2 (w.heap.size + 1 + 1 + 1) #[.int .i64 0,.int .i64 0] 34:=by
  rw [hw2];exact ((((hR1.out.other (a:=⟨w.heap.size,0,none⟩) (by show w.heap.size + 1 + 1 + 1 ≠ w.heap.size;omega) (.slice T1.an T1.N.length T1.cn)).other (a:=⟨w.heap.size,1,none⟩) (by show w.heap.size + 1 + 1 + 1 ≠ w.heap.size;omega) (.slice T1.ag T1.G.length T1.cg)).other (a:=⟨w.heap.size,2,none⟩) (by show w.heap.size + 1 + 1 + 1 ≠ w.heap.size;omega) (.int .i64 T1.last)).other (a:=⟨w.heap.size,3,none⟩) (by show w.heap.size + 1 + 1 + 1 ≠ w.heap.size;omega) (.int .i64 T1.now))
 have hS2:Ek w #[.int .i64 o.kd,.int .i64 o.id,.int .i64 o.srv.k,.int .i64 o.srv.q,.int .i64 o.srv.t,.int .i64 o.pol,.slice oa o.tasks.length oc,.int .i64 o.at_] w2 T1:=⟨hO2,hC2,hP2,hR2,(hT1.out.grx gxw2 (fun y hy => by rw [List.mem_singleton.1 hy];omega)).base (by omega),gxw2.all (gW.trans g1) (fun y hy => by rw [List.mem_singleton.1 hy];omega),by rw [hw2];simp only [World.size_setCell];omega⟩
 clear hO2 hC2 hP2 hR2 gxw2;replace hw2:=zH hw2;replace hWz:=zH hWz;clear hWz;obtain ⟨o0,o1,o2,o3⟩:=hS2.o.c4;obtain ⟨q0,q1,q2,q3,q4,q5,q6,q7⟩:=hS2.c.c8;replace hS2:=zH hS2;have th0:decide (o.kd < 1) = false:=decide_eq_false (by omega);have th1:decide (4 < o.kd) = false:=decide_eq_false (by omega);have th2:decide (o.at_ < 0) = false:=decide_eq_false (by omega);have th3:decide (1099511627776 < o.at_) = false:=decide_eq_false (by omega);obtain ⟨mx,hmx⟩:=zE (max T1.now o.at_);obtain ⟨Tm,hTm⟩:∃ Tm:TM,Tm = ⟨T1.N,T1.an,T1.cn,T1.G,T1.ag,T1.cg,T1.last,mx⟩:=⟨_,rfl⟩
 have hTmo:∀ wy,A5 (w.heap.size + 4) wy T1→A5 (w.heap.size + 4) wy Tm:=fun wy h => by rw [hTm];exact ⟨h.n,h.g,h.k,h.d,h.dg,h.f,h.l1,h.l2⟩
 replace hTmo:=zH hTmo;go_upto_if 50 with fail
 go_cut [] (fun wx => Ek w #[.int .i64 o.kd,.int .i64 o.id,.int .i64 o.srv.k,.int .i64 o.srv.q,.int .i64 o.srv.t,.int .i64 o.pol,.slice oa o.tasks.length oc,.int .i64 o.at_] wx Tm);case first =>
  by_cases hlt:T1.now < o.at_
  ·have tl:decide (T1.now < o.at_) = true:=decide_eq_true hlt;have hme:mx = o.at_:=by omega
   have fo:=fun i => hS2.out.o.free i
   refine AZ ?_ hmx hTm hme;clear hmx hTm hme;intro hmx hTm hme;go_wp2_with fail;go_meet;case rel =>
    obtain ⟨w3,hw3⟩:=zE (w2.setCell ⟨w.heap.size,3,none⟩ (.int .i64 o.at_));rw [← hw3];have gx:Aw [w.heap.size] w2 w3:=by rw [hw3];exact (Aw.refl _ _).set (.inl (by simp)) _
    have hS:=hS2.out;refine hS.box gx ?_ (hTmo.out _ (hS.t.grx gx (fun y hy => by rw [List.mem_singleton.1 hy];omega)));rw [hTm.out,hme.out,hw3];exact hS.o.set 3 (.int .i64 o.at_)
  ·have tl:decide (T1.now < o.at_) = false:=decide_eq_false hlt;have hme:mx = T1.now:=by omega
   refine AZ ?_ hmx hTm hme;clear hmx hTm hme;intro hmx hTm hme;go_wp2_with fail;go_meet;case rel =>
    have hS:=hS2.out;refine hS.box (Aw.refl _ _) ?_ (hTmo.out _ hS.t);rw [hTm.out,hme.out];exact hS.o
 case rest =>
  have hS3:=hcut;clear hcut;clear o0 o1 o2 o3;clear q0 q1 q2 q3 q4 q5 q6 q7;obtain ⟨L0,hL0⟩:=zE wc.heap.size;obtain ⟨wL,hwL⟩:=zE (wc.alloc (.cells #[] 43));have gL:Gr wc wL:=by rw [hwL];exact (Gr.refl _).alloc _
  have hLz:L0 < wL.heap.size:=by rw [hwL,hL0];simp
  have hGc:AC (fun b => b < L0) 5 Gh.cells wL Tm.ag Tm.G:=(hS3.t.at.g.mono (fun b hb _ => by rw [hL0];exact hb)).grx (gL.x []) (fun _ h => by cases h);have hown0:wL.ownsRow (w.heap.size + 4) 43 5 (.slice (some ⟨L0,0,none⟩) 0 0) ([]:List Gh).length (([]:List Gh).flatMap Gh.cells):=by rw [hwL,hL0];exact Bw wc _ _ _ rfl _ hS3.z
  have hS4:=hS3.gr gL;have hz3:=hS3.z;have hl2:=hS3.t.l2;obtain ⟨aG,haG⟩:=zE Tm.ag;obtain ⟨o0,o1,o2,o3⟩:=hS4.o.c4;have hTmn:Tm.now = mx:=by rw [hTm]
  rw [hTmn] at o3;have hlts:=(fun k hk => (Ar hS3.t.n k hk).1:∀ k,(Value.slice Tm.an Tm.N.length Tm.cn).ownBlock = some k→k < wc.heap.size)
  have hltg:=(fun k hk => (Ar hS3.t.g k hk).1:∀ k,(Value.slice Tm.ag Tm.G.length Tm.cg).ownBlock = some k→k < wc.heap.size)
  rw [← hL0] at hlts hltg;have hltt:∀ x ∈ Tm.N,∀ ad,x.a = some ad→x.e.tasks ≠ []→ad.block < L0:=fun x hx ad h1 h2 => by rw [hL0];exact (hS3.t.k x hx).1.1.lt h1 h2
  rw [← haG] at o1 hGc;have hzL:w.heap.size + 4≤L0:=by rw [hL0];exact hz3
  refine Br ?_ hwL hGc hown0 hS4 hS3 haG hlts hltt;clear hwL hGc hown0 hS4 hS3 haG hlts hltt;intro hwL hGc hown0 hS4 hS3 haG hlts hltt;refine B0 ?_ hltg hmx hTm hTmn;clear hltg hmx hTm hTmn;intro hltg hmx hTm hTmn;go_upto_region 7 with fail
  rw [← hwL.out,← hL0];replace hL0:=zH hL0;go_wp2_with fail;clear o0 o1 o2 o3;go_loopw [58,6] (fun iv ov wr => ∃ k:Nat,k≤Tm.G.length∧iv = .int .i64 k∧Hid (wr.ownsRow (w.heap.size + 4) 43 5 ov (EZ Tm.G mx k).length ((EZ Tm.G mx k).flatMap Gh.cells))∧(∀ y,ov.ownBlock = some y→y = L0 ∨ wL.heap.size≤y)∧Aw [L0] wL wr) (fun iv _ _ => Tm.G.length - (intOf iv).toNat);case atStart => exact ⟨0,Nat.zero_le _,rfl,Lib.hid hown0.out,(fun y hy => .inl (by simp [Value.ownBlock] at hy;omega)),Aw.refl _ _⟩
  case round =>
   obtain ⟨k,hk,rfl,hown,hob,hg⟩:=hrel;replace hob:=zH hob;have hgz:=hg.size;have hwz5:w.heap.size < wr.heap.size:=by omega
   by_cases hlt:k < Tm.G.length
   ·obtain ⟨x,hx⟩:=Ac Tm.G k hlt;obtain ⟨gb,off,hab,hb,-,c0,c1,c2,c3,c4⟩:=CF (hGc.out.grx hg (fun y hy => by rw [List.mem_singleton.1 hy];omega)) hx;subst hab;have tk:(k:Int) < Tm.G.length:=by omega
    have hbo:=hS4.out.o.grx hg (by simp;omega);have o3:=hbo.cell (i:=3) (v:=.int .i64 Tm.now) rfl;rw [hTmn.out] at o3;have hsu:=Ll (n:=mx) hx;have hln:=ID Tm.G mx k;replace hx:=zH hx;replace hbo:=zH hbo;by_cases hp:mx < x.till
    ·rw [if_pos hp] at hsu;have tp:decide (mx < x.till) = true:=decide_eq_true hp;obtain ⟨wz,hwz⟩:=zE ((wr.alloc (.cells #[.int .i64 x.par,.int .i64 x.srv.k,.int .i64 x.srv.q,.int .i64 x.srv.t,.int .i64 x.till] 43)).alloc (.cells #[.int .i64 x.par,.int .i64 x.srv.k,.int .i64 x.srv.q,.int .i64 x.srv.t,.int .i64 x.till] 43));have gzz:Gr wr wz:=by rw [hwz];exact ((Gr.refl wr).alloc _).alloc _
     have hO2:=As hown.out gzz;have hrec:Al 5 Gh.cells wz (some ⟨wr.heap.size + 1,0,none⟩) [x]:=by
      rw [hwz];have:=An Gh.cells_len (wr.alloc (.cells #[.int .i64 x.par,.int .i64 x.srv.k,.int .i64 x.srv.q,.int .i64 x.srv.t,.int .i64 x.till] 43)) [x] 43 #[.int .i64 x.par,.int .i64 x.srv.k,.int .i64 x.srv.q,.int .i64 x.srv.t,.int .i64 x.till] (by simp);rw [zL] at this;exact this
     have hbz:w.heap.size + 4≤wz.heap.size:=by have:=gzz.size;omega
     refine DT ?_ hsu hwz hO2 hrec hp;clear hsu hwz hO2 hrec hp;intro hsu hwz hO2 hrec hp;obtain ⟨i44,hi,hz0,hz1,hz2⟩:=info_parts Tryz.infoGh;go_wp2_with (at_builtin;(rw [← hwz.out];refine AP (k:=5) (enc:=Gh.cells) rfl _ _ 25 rfl (w.heap.size + 4) 43 i44 _ 40 Tryz.underlying25 hi hz0 hz1 hz2 rfl (by decide) Gh.cells_len Gh.cells_one _ (EZ Tm.G mx k) rfl hO2.out (wr.heap.size + 1) 1 x rfl hrec.out (by unfold maxLen;omega) (by omega) hbz ?_;intro v7 w7 hown7 hgr7 hat7;rw [← hsu.out] at hown7;have g7:Aw [L0] wL w7:=(hg.gr gzz).grown13 hgr7 (fun y hy => by rcases hob.out y hy with h1 | h1 <;> simp [h1]);have hob7:∀ y,v7.ownBlock = some y→y = L0 ∨ wL.heap.size≤y:=(fun y hy => by rcases hat7 with h1 | h1;exact hob.out y (h1.symm.trans hy);have hy:=h1.symm.trans hy;have h3:=gzz.size;right;injection hy with hy;omega);replace hown7:=zH hown7;clear hat7));go_roundw;case rel => exact ⟨k + 1,by omega,by go_num,hown7,hob7,g7⟩
     case measure => simp [intOf];omega
    ·rw [if_neg hp,List.append_nil] at hsu;have tp:decide (mx < x.till) = false:=decide_eq_false hp;replace hsu:=zH hsu;replace hp:=zH hp;go_wp2_with fail;go_roundw;case rel => exact ⟨k + 1,by omega,by go_num,Lib.hid (As (by rw [hsu.out];exact hown.out) ((Gr.refl _).alloc _)),hob.out,hg.alloc _⟩
     case measure => simp [intOf];omega
   ·have hkN:k = Tm.G.length:=by omega
    have tk:¬ (k:Int) < Tm.G.length:=by omega
    have tkb:decide ((k:Int) < Tm.G.length) = false:=decide_eq_false tk;obtain ⟨F,hF⟩:=zE (EZ Tm.G mx k);rw [← hF] at hown;have hFl:=ID Tm.G mx k;rw [← hF] at hFl;have hFe:F = Tm.G.filter fun g => decide (mx < g.till):=by rw [hF,hkN];unfold EZ;rw [List.take_length]
    obtain ⟨a2,c2,hv,-,-,-⟩:=Af Gh.cells_len hown.out;subst hv;obtain ⟨T2,hT2⟩:∃ T2:TM,T2 = ⟨Tm.N,Tm.an,Tm.cn,F,a2,c2,Tm.last,mx⟩:=⟨_,rfl⟩
    have hW2:A5 (w.heap.size + 4) wr T2:=by
     rw [hT2];refine hS4.out.t.ghosts hg (fun y hy hm => ?_) (fun x hx ad h1 h2 hm => ?_) _ _ hown.out (fun x hx ad h1 h2 e => ?_) (by omega)
     ·have:=hlts.out y hy;rw [List.mem_singleton.1 hm] at this;omega
     ·have:=hltt.out x hx ad h1 h2;rw [List.mem_singleton.1 hm] at this;omega
     ·have h3:=hltt.out x hx ad h1 h2;rcases hob.out _ e with h4 | h4 <;> omega
    have hS5:Ek w #[.int .i64 o.kd,.int .i64 o.id,.int .i64 o.srv.k,.int .i64 o.srv.q,.int .i64 o.srv.t,.int .i64 o.pol,.slice oa o.tasks.length oc,.int .i64 o.at_] wr Tm:=⟨hS4.out.o.grx hg (by simp;omega),hS4.out.c.grx hg (by simp;omega),hS4.out.p.grx hg (by simp;omega),hS4.out.r.grx hg (by simp;omega),hS4.out.t.far hg (n0:=L0) (fun y hy => by rw [List.mem_singleton.1 hy];exact Nat.le_refl _) hlts.out hltg.out hltt.out,hg.all hS4.out.g (fun y hy => by rw [List.mem_singleton.1 hy];omega),Nat.le_trans hS4.out.z hg.size⟩
    obtain ⟨o0,o1,o2,o3⟩:=hS5.o.c4;have fo:=fun i => hS5.o.free i
    refine Fm ?_ hF hFe hkN hown hW2 hT2 hS5;clear hF hFe hkN hown hW2 hT2 hS5;intro hF hFe hkN hown hW2 hT2 hS5;go_upto_region 14 with fail
    clear fo;clear o0 o1 o2 o3;obtain ⟨w5,hw5⟩:=zE (wr.setCell ⟨w.heap.size,1,none⟩ (.slice a2 F.length c2));rw [← hw5];have gx5:Aw [w.heap.size] wr w5:=by rw [hw5];exact (Aw.refl _ _).set (.inl (by simp)) _
    have hS6:Ek w #[.int .i64 o.kd,.int .i64 o.id,.int .i64 o.srv.k,.int .i64 o.srv.q,.int .i64 o.srv.t,.int .i64 o.pol,.slice oa o.tasks.length oc,.int .i64 o.at_] w5 T2:=by
     refine hS5.out.box gx5 ?_ (hW2.out.grx gx5 (fun y hy => by rw [List.mem_singleton.1 hy];omega));rw [hT2.out,hw5];have:=hS5.out.o.set 1 (.slice a2 F.length c2);have h2:Tm.now = mx:=hTmn.out;rw [show TM.row ⟨Tm.N,Tm.an,Tm.cn,F,a2,c2,Tm.last,mx⟩ = #[.slice Tm.an Tm.N.length Tm.cn,.slice a2 F.length c2,.int .i64 Tm.last,.int .i64 Tm.now] by rw [h2]];exact this
    have hT2v:T2.v = T.v.tick o.at_:=by
     rw [← hv1.out,hT2.out,hFe.out,hTm.out,hmx.out];rfl
    clear gx5 hob hg;replace hw5:=zH hw5;replace hT2v:=zH hT2v;have hS2s:Bq n T2.v:=by rw [hT2v.out];exact hSn.tick ha1
    have hF2:C0 T2.v:=by rw [hT2v.out];exact hFt.less rfl rfl List.filter_sublist
    obtain ⟨hsrt,hlow,hids,hl0,hl6,hn0,hn1,hgl⟩:=LN hS2s hn;have hge1:∀ x ∈ T2.N,1≤x.e.id:=fun x hx => by have:=hlow x hx;omega
    have hval:=LC (t:=T.v) (o:=o) (by omega);rw [← hT2v.out,← hV.out] at hval;have hTa:=hS6.t.at.any;have hl1:=hS6.t.l1;obtain ⟨o0,o1,o2,o3⟩:=hS6.o.c4;obtain ⟨q0,q1,q2,q3,q4,q5,q6,q7⟩:=hS6.c.c8;refine Br ?_ hS6 hS2s hF2 hsrt hlow hids hge1 hval;clear hS6 hS2s hF2 hsrt hlow hids hge1 hval;intro hS6 hS2s hF2 hsrt hlow hids hge1 hval;replace hTa:=zH hTa;clear hV hv1 hcp hTmo hlts hltt hltg hS3 hS4 hS5 hown0 hGc haG hW2 hown hF hFe hkN hT2 hTmn hTm hmx hwL hL0 hT2v hw5 hT1 hO hC hP hR hO1 hC1 hP1 hR1 hS2 hw2;have hfd:=NM T2 o.id w5 hTa.out;replace hfd:=zH hfd;rename_i K hK;replace hK:=zH hK;go_wp2_with fail;refine hfd.out.mono ?_;rintro e w6 ⟨x,b,rfl,hfb1,hfb0,g6⟩;obtain ⟨nb,hnb⟩:=zE w6.heap.size;obtain ⟨w7,hw7⟩:=zE (w6.alloc (.cells #[.int .i64 x.e.id,.int .i64 x.e.par,.int .i64 x.e.srv.k,.int .i64 x.e.srv.q,.int .i64 x.e.srv.t,.int .i64 x.e.pol,.slice x.a x.e.tasks.length x.c] 39));have g7:Gr w6 w7:=by rw [hw7];exact (Gr.refl _).alloc _
    have hS7:=(hS6.out.gr g6).gr g7;have hN7:Ag w7 nb #[.int .i64 x.e.id,.int .i64 x.e.par,.int .i64 x.e.srv.k,.int .i64 x.e.srv.q,.int .i64 x.e.srv.t,.int .i64 x.e.pol,.slice x.a x.e.tasks.length x.c] 39:=by rw [hw7,hnb];exact Ag.new _ _ _
    have hpf:((T2.v.find o.id).map (·.pol)).getD 0 = x.e.pol:=by
     cases b with
     | true => obtain ⟨i,hi⟩:=hfb1 rfl;rw [Dg hi];rfl
     | false => obtain ⟨rfl,hn⟩:=hfb0 rfl;rw [Da hn];rfl
    have hnbz:w.heap.size + 4≤nb:=by have:=hS6.out.z;have:=g6.size;omega
    have hnr:∀ k,(Value.slice T2.an T2.N.length T2.cn).ownBlock = some k→k < nb:=fun k hk => by rw [hnb];exact (Ar (hS6.out.gr g6).t.n k hk).1
    clear hTa hfd;clear o0 o1 o2 o3 q0 q1 q2 q3 q4 q5 q6 q7;refine Br ?_ hnb hw7 hS7 hN7 hfb1 hfb0 hpf hnr;clear hnb hw7 hS7 hN7 hfb1 hfb0 hpf hnr;intro hnb hw7 hS7 hN7 hfb1 hfb0 hpf hnr;go_wp2_with fail;rw [← hnb.out,← hw7.out];refine hK.out _ _ ?_;exact JY T T2 w w7 o oa oc nb x b V _ _ _ _ _ _ _ _ _ _ _ _ _ _ _ _ _ _ _ _ _ _ _ _ _ _ _ _ _ _ _ _ _ _ _ _ _ _ _ _ _ _ _ _ _ _ _ _ _ _ _ _ _ _ _ _ _ _ _ _ _ _ _ _ _ _ _ _ _ _ _ _ _ _ _ _ _ _ _ _ _ _ _ _ _ _ _ _ _ _ _ _ _ _ _ _ _ _ _ _ _ _ _ _ _ _ _ _ _ _ _ _ _ _ _ _ _ _ _ _ _ _ _ _ _ _ _ _ _ _ _ _ _ _ _ _ _ _ _ _ _ _ _ _ _ _ _ _ _ _ _ _ _ _ _ _ _ _ _ _ _ _ _ _ _ _ _ _ _ _ _ _ _ _ _ _ _ _ _ _ _ _ _ _ _ _ _ _ _ _ _ _ _ _ _ _ _ _ _ _ _ _ _ _ _ _ _ _ _ _ _ _ _ _ _ _ _ _ _ _ _ _ _ _ _ _ _ _ _ _ _ _ _ _ _ _ _ _ _ _ _ _ _ _ _ _ _ _ _ _ _ _ _ _ _ _ _ _ _ _ _ _ _ _ _ _ _ _ _ _ _ _ _ _ _ _ _ _ _ _ _ _ _ _ _ _ _ _ _ _ _ _ _ _ _ _ _ _ _ _ _ _ _ _ _ _ _ _ _ _ _ _ _ _ _ _ _ _ _ _ _ _ _ _ _ _ _ _ _ _ _ _ _ _ _ _ _ _ _ _ _ _ _ _ _ _ _ _ _ _ _ _ _ _ _ _ _ _ _ _ _ _ _ _ _ _ _ _ _ _ _ _ hval.out hS7.out hN7.out hfb1.out hfb0.out hpf.out hS2s.out hF2.out hsrt.out hlow.out hge1.out hnr.out hnbz hl0 hl6 hn0 hn1 hgl hl1 hta.out hom.out hk1 hk4
theorem Lb (T:TM) (w:World) (hT:Av Any w T) {n:Nat} (hSn:Bq n T.v) (hFt:C0 T.v) (hn:n < 1000000) (o:A8) (oa:Option Addr) (oc:Nat) (hta:Al 4 AA.cells w oa o.tasks) (hom:o.tasks.length * 32≤140737488351232) :
 Calls Tryz.prog 14 #[.agg T.row,.agg #[.int .i64 o.kd,.int .i64 o.id,.int .i64 o.srv.k,.int .i64 o.srv.q,.int .i64 o.srv.t,.int .i64 o.pol,.slice oa o.tasks.length oc,.int .i64 o.at_]] w (DA (T.v.apply o) w):=by
 by_cases hb:o.kd < 1 ∨ 4 < o.kd ∨ o.at_ < 0 ∨ 1099511627776 < o.at_
 ·exact La T w hT o oa oc hb
 ·exact JZ T w hT hSn hFt hn o oa oc hta hom hb
def EQ (c:Int) (o:Option Int) (e:Du):Option Int:=if e.cl = c then some (match o with | none => e.nu | some m => max m e.nu) else o
def C3 (l:List Du) (c:Int):Option Int:=l.foldl (EQ c) none
theorem Hm (l:List Du) (e:Du) (c:Int):C3 (l ++ [e]) c = EQ c (C3 l c) e:=by unfold C3;rw [List.foldl_append];rfl
def gtO (n:Int):Option Int→Bool
 | none => false
 | some m => decide (n < m)
theorem OU (l:List Du) (c n:Int):N0 l c n = gtO n (C3 l c):=by
 have key:∀ (l:List Du) (o:Option Int),gtO n (l.foldl (EQ c) o) = (gtO n o || l.any fun e => decide (e.cl = c) && decide (n < e.nu)):=by
  intro l;induction l with
  | nil => intro o;simp
  | cons e r ih =>
   intro o;rw [List.foldl_cons,ih,List.any_cons,← Bool.or_assoc];congr 1;unfold EQ;by_cases hc:e.cl = c
   ·rw [if_pos hc,decide_eq_true hc,Bool.true_and];cases o with
    | none => rfl
    | some m =>
     show decide (n < max m e.nu) = (decide (n < m) || decide (n < e.nu))
     by_cases h1:n < m
     ·rw [decide_eq_true h1,decide_eq_true (by omega)];rfl
     ·rw [decide_eq_false h1,Bool.false_or];by_cases h2:n < e.nu
      ·rw [decide_eq_true h2,decide_eq_true (by omega)]
      ·rw [decide_eq_false h2,decide_eq_false (by omega)]
   ·rw [if_neg hc,decide_eq_false hc,Bool.false_and,Bool.or_false]
 unfold N0 C3;rw [key l none];rfl
def Fk (D:DataW Unit) (l:List Du):Prop:=∀ c:Int,match C3 l c with
 | none => Maps.has D (.int .i64 c) = false
 | some m => Maps.has D (.int .i64 c) = true∧∀ z,D.atKey (.int .i64 c) z = .lit (.int .i64 m)
theorem Fk.nil:Fk (.map []) []:=fun c => by
 show Maps.has (.map []) _ = false;rfl
theorem Fk.same {D:DataW Unit} {l:List Du} {e:Du} {m:Int} (h:Fk D l) (hm:C3 l e.cl = some m) (hn:¬ m < e.nu):Fk D (l ++ [e]):=fun c => by
 rw [Hm];unfold EQ;have h1:=h c;by_cases hc:e.cl = c
 ·rw [if_pos hc];rw [← hc,hm] at h1;rw [← hc,hm];dsimp only at h1 ⊢;rw [show max m e.nu = m by omega];exact h1
 ·rw [if_neg hc];exact h1
theorem Fk.put {D:DataW Unit} {l:List Du} {e:Du} (h:Fk D l) (hD:Maps.IsMap D) (hk:WideAt.IsKeyLit (.int .i64 e.cl)) (hm:∀ m,C3 l e.cl = some m→m < e.nu):Fk (D.put (.int .i64 e.cl) (.lit (.int .i64 e.nu))) (l ++ [e]):=fun c => by
 rw [Hm];unfold EQ;have h1:=h c;by_cases hc:e.cl = c
 ·rw [if_pos hc];have hv:(match C3 l c with | none => e.nu | some m => max m e.nu) = e.nu:=by
   cases hx:C3 l c with
   | none => rfl
   | some m =>
    have:=hm m (by rw [hc];exact hx);show max m e.nu = e.nu;omega
  rw [hv,← hc];exact ⟨Maps.has_put_same hD hk _,fun z => Maps.atKey_put_same hD hk _ z⟩
 ·rw [if_neg hc];have hne:(Lit.int .i64 c) ≠ Lit.int .i64 e.cl:=fun h => hc (by injection h with h1 h2;exact h2.symm)
  cases hx:C3 l c with
  | none =>
   rw [hx] at h1;show Maps.has _ _ = false;rw [Maps.has_put_other hne];exact h1
  | some m =>
   rw [hx] at h1;exact ⟨by rw [Maps.has_put_other hne];exact h1.1,fun z => by rw [Maps.atKey_put_other hne];exact h1.2 z⟩
theorem Tryz.infoEnt:(Tryz.prog.info? 137).map (fun i => (i.zero,i.size,i.bytes)) = some (some (.agg #[.int .i64 0,.int .i64 0,.int .i64 0,.int .i64 0,.int .i64 0,.int .i64 0,.int .i64 0,.int .i64 0,.slice none 0 0,.int .i64 0]),10,96):=by kernel_rfl
def LedP (L:List At) (w:World) (e:Ending) (w':World):Prop :=
 ∃ a c L',e = .returned (.slice a L.length c)∧L'.map (·.e) = L.map (·.e)∧Cc (fun b => w.heap.size≤b) w' a L'∧(a = none→c = 0)∧L.length≤c∧c≤maxLen∧Gr w w' ∧
  w'.ownsRow w.heap.size 137 10 (.slice a L'.length c) L'.length (L'.flatMap At.cells)∧∀ x ∈ L',∀ ad,x.a = some ad→x.e.tasks ≠ []→(Value.slice a L'.length c).ownBlock ≠ some ad.block
theorem Jn {K:Nat→Prop} {w:World} {x:At} (h:x.ok K w):x.e.tasks.length * 32≤140737488351232:=h.2.2.2.2
abbrev At.obj (x:At):Obj:=.cells #[.int .i64 x.e.cl,.int .i64 x.e.nu,.int .i64 x.e.kd,.int .i64 x.e.id,.int .i64 x.e.srv.k,.int .i64 x.e.srv.q,.int .i64 x.e.srv.t,.int .i64 x.e.po,.slice x.a x.e.tasks.length x.c,.int .i64 x.e.at_] 137
abbrev Kk (d:Int):List Value:=[.int .i64 d]
theorem DN (d:Int):(Kk d).length = 1:=rfl
theorem OZ {w:World} {a:Option Addr} {l:List Int} (h:Al 1 Kk w a l) {i:Nat} {d:Int} (hd:l[i]? = some d):∃ b off,a = some ⟨b,off,none⟩∧b < w.heap.size∧w.cell? ⟨b,off + i,none⟩ = some (.int .i64 d):=by
 obtain ⟨b,off,ha,hb,hc⟩:=h i d hd;exact ⟨b,off,ha,hb,by simpa using hc 0 _ rfl⟩
def Fb (n:Int):Bool:=decide (0≤n∧n≤1099511627776)
theorem EO {n:Int}:Fb n = true ↔ 0≤n∧n≤1099511627776:=decide_eq_true_iff
theorem LZ (a:Option Addr) (l:List Int) (c:Nat) (w:World) (h:Al 1 Kk w a l) (hm:l.length≤maxLen) :
 Calls Tryz.prog 253 #[.slice a l.length c] w fun e w' => e = .returned (.bool (l.all Fb))∧w = w':=by
 unfold maxLen at hm;go_enter Tryz.func253,Tryz.ntmps253;go_wp2_with fail;go_loopw [7] (fun iv wr => ∃ k:Nat,k≤l.length∧iv = .int .i64 k∧(l.take k).all Fb = true∧wr = w) (fun iv _ => l.length - (intOf iv).toNat);case atStart => exact ⟨0,Nat.zero_le _,rfl,rfl,rfl⟩
 case round =>
  obtain ⟨k,hk,rfl,hall,rfl⟩:=hrel;replace hall:=zH hall;by_cases hlt:k < l.length
  ·obtain ⟨d,hd⟩:=Ac l k hlt;obtain ⟨b,off,rfl,hb,c0⟩:=OZ h hd;by_cases hok:0≤d∧d≤1099511627776
   ·have hts:=Ae hd;have hall2:(l.take (k + 1)).all Fb = true:=by rw [hts,List.all_append,hall.out];simp [EO.2 hok]
    obtain ⟨o1,o2⟩:=hok;clear hts;replace hall2:=zH hall2;go_wp2_with fail;go_roundw;case rel => exact ⟨k + 1,by omega,by go_num,hall2.out,trivial⟩
    case measure => simp [intOf];omega
   ·have hno:l.all Fb = false:=by
     cases hh:l.all Fb
     ·rfl
     ·have:=List.all_eq_true.1 hh d (AL hd);exact absurd (EO.1 this) hok
    replace hno:=zH hno;by_cases h0:d < 0
    ·go_wp2_with fail;go_ret;exact ⟨by rw [hno.out];rfl,rfl⟩
    ·have h1:1099511627776 < d:=by omega
     go_wp2_with fail;go_ret;exact ⟨by rw [hno.out];rfl,rfl⟩
  ·have:l.take k = l:=List.take_of_length_le (by omega);have hall2:=hall.out;rw [this] at hall2;replace hall2:=zH hall2;go_wp2_with fail;go_ret;exact ⟨by rw [hall2.out];rfl,rfl⟩
theorem K9 (a:Option Addr) (c:Nat) (L:List At) (w:World) (h:Cc Any w a L) (hm:L.length * 96≤140737488351232) :
 Calls Tryz.prog 17 #[.slice a L.length c] w (LedP L w):=by
 obtain ⟨i36,hi,hz0,hz1,hz2⟩:=info_parts Tryz.infoEnt;obtain ⟨i72,hj,hy0,hy1,hy2⟩:=info_parts Tryz.infoTsk;go_enter Tryz.func17,Tryz.ntmps17;go_wp2_with fail;go_loopw [9,3] (fun iv v wr => ∃ (k:Nat) (L':List At),k≤L.length∧iv = .int .i64 k∧L'.length = k∧L'.map (·.e) = (L.take k).map (·.e)∧wr.ownsRow w.heap.size 137 10 v L'.length (L'.flatMap At.cells)∧(∀ x ∈ L',x.ok (fun b => w.heap.size≤b) wr∧∀ ad,x.a = some ad→x.e.tasks ≠ []→v.ownBlock ≠ some ad.block)∧Gr w wr) (fun iv _ _ => L.length - (intOf iv).toNat);case atStart => exact ⟨0,[],Nat.zero_le _,rfl,rfl,rfl,Bw _ _ _ _ rfl _ (Nat.le_refl _),(fun _ h => by cases h),(Gr.refl _).alloc _⟩
 case round =>
  obtain ⟨k,L',hk,rfl,hlen,hmap,hown,hoks,hg⟩:=hrel;refine AZ ?_ hlen hmap hoks;clear hlen hmap hoks;intro hlen hmap hoks;by_cases hlt:k < L.length
  ·obtain ⟨x,hx⟩:=Ac L k hlt;obtain ⟨b,off,rfl,hb,_,c0,c1,c2,c3,c4,c5,c6,c7,c8,c9⟩:=(h.gr hg).get hx;have hxo:=(h.gr hg).2 x (AL hx);have hxm:=Jn hxo;replace hx:=zH hx;have hx32:x.e.tasks.length * 32≤140737488355328:=by omega
   have hx63:x.e.tasks.length≤maxLen:=by unfold maxLen;omega
   go_upto_region 6 with (at_builtin;refine Cl (k:=4) (enc:=AA.cells) rfl _ _ 30 rfl 41 i72 _ 32 Tryz.underlying30 hj hy0 hy1 hy2 rfl (by decide) AA.cells_len AA.cells_one (wr.heap.size + 1) (by simp) rfl x.a x.c x.e.tasks rfl (hxo.gr ((Gr.refl wr).alloc x.obj)).1.1 hxo.2.1 hx63 hx32 ?_;intro v1 w1 hownt g1;obtain ⟨a1,d1,rfl,hrt,m1,hbt⟩:=Af AA.cells_len hownt;obtain ⟨k1,j1,s1⟩:=g1.cells;simp only [zL] at k1 j1 s1;have z1:wr.heap.size < w1.heap.size:=(by omega);have kk:=fun o => k1 wr.heap.size o (by omega);have jj:=fun o => j1 wr.heap.size o (by omega);clear k1 j1)
   obtain ⟨q1,q2⟩:=CD hownt rfl;have r1:AC (fun b => (wr.alloc x.obj).heap.size≤b) 4 AA.cells w1 a1 x.e.tasks:=⟨hrt,fun y hy _ => hbt y hy⟩
   clear hownt hrt hbt;have gW:Gr wr (w1.setCell ⟨wr.heap.size,8,none⟩ (.slice a1 x.e.tasks.length d1)):=(((Gr.refl wr).alloc x.obj).trans g1).setCell (Nat.le_refl _) _;have hown2:=As hown gW;have hl63:L'.length + 1≤maxLen:=by rw [hlen.out];unfold maxLen;omega
   have hby:(L'.length + 1) * 96≤140737488355328:=by rw [hlen.out];omega
   have n3:w.heap.size≤(w1.setCell ⟨wr.heap.size,8,none⟩ (.slice a1 x.e.tasks.length d1)).heap.size:=by have:=hg.size;simp;omega
   have hrec:=An At.cells_len (w1.setCell ⟨wr.heap.size,8,none⟩ (.slice a1 x.e.tasks.length d1)) [⟨x.e,a1,d1⟩] 137 (List.toArray (x.e.cells a1 d1)) (by simp);rw [World.size_setCell] at hrec;have hbl:=Ar hown;replace hbl:=zH hbl;go_wp2_with (at_builtin;refine AP (k:=10) (enc:=At.cells) rfl _ _ 45 rfl w.heap.size 137 i36 _ 96 Tryz.underlying45 hi hz0 hz1 hz2 rfl (by decide) At.cells_len At.cells_one _ L' rfl (hown2.alloc _) w1.heap.size 1 ⟨x.e,a1,d1⟩ rfl hrec hl63 hby (BG n3 _) ?_;intro v1 w2 hown1 hgr1 hat);have gW2:Gr wr ((w1.setCell ⟨wr.heap.size,8,none⟩ (.slice a1 x.e.tasks.length d1)).alloc (At.obj ⟨x.e,a1,d1⟩)):=gW.alloc _;have hg2:Gr w w2:=(hg.trans gW2).grown hgr1 (fun g hg' => (hbl.out g hg').2);have hx1:Al 4 AA.cells ((w1.setCell ⟨wr.heap.size,8,none⟩ (.slice a1 x.e.tasks.length d1)).alloc (At.obj ⟨x.e,a1,d1⟩)) a1 x.e.tasks:=by
    have hr1:=r1.grx (T:=[wr.heap.size]) (((Aw.refl [wr.heap.size] w1).set (.inl (List.mem_singleton.2 rfl)) (.slice a1 x.e.tasks.length d1):Aw [wr.heap.size] w1 (w1.setCell ⟨wr.heap.size,8,none⟩ (.slice a1 x.e.tasks.length d1))).alloc (At.obj ⟨x.e,a1,d1⟩)) (fun y hy => by rw [List.mem_singleton.1 hy];simp);exact hr1.1
   have hnew:∀ ad,a1 = some ad→x.e.tasks ≠ []→wr.heap.size < ad.block:=fun ad h1 h2 => by have:=r1.2 ad h1 h2;simp at this;omega
   have hoks2:∀ y ∈ L' ++ [⟨x.e,a1,d1⟩],y.ok (fun b => w.heap.size≤b) w2∧∀ ad,y.a = some ad→y.e.tasks ≠ []→v1.ownBlock ≠ some ad.block:=by
    intro y hy;rcases List.mem_append.1 hy with hy | hy
    ·obtain ⟨o1,o2⟩:=hoks.out y hy;refine ⟨(o1.gr gW2).grown hgr1 o2,fun ad ha ht => ?_⟩;rcases hat with hat | hat
     ·rw [hat];exact o2 ad ha ht
     ·rw [hat];intro e;have e2:((w1.setCell ⟨wr.heap.size,8,none⟩ (.slice a1 x.e.tasks.length d1)).alloc (At.obj ⟨x.e,a1,d1⟩)).heap.size = ad.block:=Option.some.inj e;have e3:=o1.1.1.lt ha ht;have e4:=gW2.size;omega
    ·rw [List.mem_singleton.1 hy];refine ⟨⟨⟨hx1.grown hgr1 (fun ad ha ht e => ?_),fun ad ha ht => ?_⟩,m1,q1,q2,hxm⟩,fun ad ha ht e => ?_⟩
     ·have:=(hbl.out _ e).1;have:=hnew ad ha ht;omega
     ·have:=hnew ad ha ht;have:=hg.size;omega
     ·rcases hat with hat | hat
      ·rw [hat] at e;have:=(hbl.out _ e).1;have:=hnew ad ha ht;omega
      ·rw [hat] at e;have e2:((w1.setCell ⟨wr.heap.size,8,none⟩ (.slice a1 x.e.tasks.length d1)).alloc (At.obj ⟨x.e,a1,d1⟩)).heap.size = ad.block:=Option.some.inj e;have e3:=hx1.lt ha ht;omega
   clear hat hgr1 r1 hx1 hnew hbl hoks;have hmap2:(L' ++ [(⟨x.e,a1,d1⟩:At)]).map (·.e) = (L.take (k + 1)).map (·.e):=by rw [Ae hx.out,List.map_append,List.map_append,hmap.out];rfl
   replace hmap2:=zH hmap2;replace hoks2:=zH hoks2;go_wp2_with fail;go_roundw;case rel => exact ⟨k + 1,L' ++ [⟨x.e,a1,d1⟩],by omega,by go_num,by rw [List.length_append,hlen.out];rfl,hmap2.out,hown1,hoks2.out,hg2⟩
   case measure => simp [intOf];omega
  ·have hall:L.take k = L:=List.take_of_length_le (by omega);obtain ⟨a',c',hv,hr,hn,hbb⟩:=Af At.cells_len hown;have hcap:=CD hown hv;have hL:L'.length = L.length:=by have:=hlen.out;omega
   subst hv;rw [hL] at hcap;have hvl:Value.slice a' L'.length c' = .slice a' L.length c':=by rw [hL]
   rw [hvl];go_wp2_with fail;go_ret;exact ⟨a',c',L',rfl,by rw [hmap.out,hall],⟨⟨hr,fun x hx _ => hbb x hx⟩,fun x hx => (hoks.out x hx).1⟩,hn,hcap.1,hcap.2,hg,hown,fun x hx => (hoks.out x hx).2⟩
def Ca (cl nu:Int) (e:Du):Bool:=e.cl == cl && e.nu == nu
theorem AD (x:At) (w:World) :
 Calls Tryz.prog 122 #[.agg #[.int .i64 x.e.cl,.int .i64 x.e.nu,.int .i64 x.e.kd,.int .i64 x.e.id,.int .i64 x.e.srv.k,.int .i64 x.e.srv.q,.int .i64 x.e.srv.t,.int .i64 x.e.po,.slice x.a x.e.tasks.length x.c,.int .i64 x.e.at_]] w fun e w' => e = .returned (.agg #[.int .i64 x.e.cl,.int .i64 x.e.nu])∧Gr w w':=by
 go_enter Tryz.func122,Tryz.ntmps122;go_wp2;refine bodyPost_ret (v:=.agg #[.int .i64 x.e.cl,.int .i64 x.e.nu]) (by simp [results,Tryz.results122,go_sem]) rfl ⟨rfl,?_⟩;repeat (first | exact Gr.refl _ | apply Gr.alloc | apply Gr.drew | apply Gr.drewN | (refine Gr.setCell ?_ (by simp) _) | (refine Gr.trans ?_ (by assumption)))
theorem Le (x:At) (cl nu:Int) (kb:Nat) (w:World) (h0:w.cell? ⟨kb,0,none⟩ = some (.int .i64 cl)) (h1:w.cell? ⟨kb,1,none⟩ = some (.int .i64 nu)) (hb:kb < w.heap.size) :
 Calls Tryz.prog 121 #[.agg #[.int .i64 x.e.cl,.int .i64 x.e.nu,.int .i64 x.e.kd,.int .i64 x.e.id,.int .i64 x.e.srv.k,.int .i64 x.e.srv.q,.int .i64 x.e.srv.t,.int .i64 x.e.po,.slice x.a x.e.tasks.length x.c,.int .i64 x.e.at_],.pointer (some ⟨kb,0,none⟩)] w fun e w' => e = .returned (.bool (Ca cl nu x.e))∧Gr w w':=by
 have r0:(w.alloc x.obj).cell? ⟨kb,0,none⟩ = some (.int .i64 cl):=by simp [go_sem, *]
 have r1:(w.alloc x.obj).cell? ⟨kb,1,none⟩ = some (.int .i64 nu):=by simp [go_sem, *]
 have hk:=AD x;replace hk:=zH hk;have hcase:(x.e.cl = cl∧x.e.nu = nu) ∨ ¬ x.e.cl = cl ∨ (x.e.cl = cl∧¬ x.e.nu = nu):=by omega
 rcases hcase with ⟨h2,h3⟩ | h2 | ⟨h2,h3⟩
 ·have e1:Ca cl nu x.e = true:=by unfold Ca;simp [h2,h3]
  have e2:(x.e.cl == cl) = true:=by simpa using h2
  have e3:(x.e.nu == nu) = true:=by simpa using h3
  clear h2 h3;replace e1:=zH e1;go_enter Tryz.func121,Tryz.ntmps121;go_wp2_with fail;go_region_held3 (fun w' => w'.cell? ⟨kb,0,none⟩ = some (.int .i64 cl)∧w'.cell? ⟨kb,1,none⟩ = some (.int .i64 nu)∧w'.cell? ⟨w.heap.size,0,none⟩ = some (.int .i64 x.e.cl)∧w'.cell? ⟨w.heap.size,1,none⟩ = some (.int .i64 x.e.nu)∧w'.cell? ⟨w.heap.size,2,none⟩ = some (.int .i64 x.e.kd)∧w'.cell? ⟨w.heap.size,3,none⟩ = some (.int .i64 x.e.id)∧w'.cell? ⟨w.heap.size,4,none⟩ = some (.int .i64 x.e.srv.k)∧w'.cell? ⟨w.heap.size,5,none⟩ = some (.int .i64 x.e.srv.q)∧w'.cell? ⟨w.heap.size,6,none⟩ = some (.int .i64 x.e.srv.t)∧w'.cell? ⟨w.heap.size,7,none⟩ = some (.int .i64 x.e.po)∧w'.cell? ⟨w.heap.size,8,none⟩ = some (.slice x.a x.e.tasks.length x.c)∧w'.cell? ⟨w.heap.size,9,none⟩ = some (.int .i64 x.e.at_)) (simp (maxDischargeDepth:=8) [go_sem, *])
   (first
    | (go_at_call 122;refine (hk.out _).mono ?_;rintro e wf ⟨rfl,gf⟩;obtain ⟨cf,ff,sf⟩:=gf.cells;simp only [World.size_drew,zL] at cf sf;have kf:=fun o => cf kb o (by omega);have kf2:=fun o => cf w.heap.size o (by omega))
    | fail)
  go_wp2_with fail;go_ret;refine ⟨C5 e1.out.symm,?_⟩;exact (((Gr.refl w).alloc _).drew).trans gf
 ·have e1:Ca cl nu x.e = false:=by unfold Ca;simp [h2]
  have e2:(x.e.cl == cl) = false:=by simpa using h2
  clear h2;replace e1:=zH e1;go_enter Tryz.func121,Tryz.ntmps121;go_wp2_with fail;go_region_held3 (fun w' => w'.cell? ⟨kb,0,none⟩ = some (.int .i64 cl)∧w'.cell? ⟨kb,1,none⟩ = some (.int .i64 nu)∧w'.cell? ⟨w.heap.size,0,none⟩ = some (.int .i64 x.e.cl)∧w'.cell? ⟨w.heap.size,1,none⟩ = some (.int .i64 x.e.nu)∧w'.cell? ⟨w.heap.size,2,none⟩ = some (.int .i64 x.e.kd)∧w'.cell? ⟨w.heap.size,3,none⟩ = some (.int .i64 x.e.id)∧w'.cell? ⟨w.heap.size,4,none⟩ = some (.int .i64 x.e.srv.k)∧w'.cell? ⟨w.heap.size,5,none⟩ = some (.int .i64 x.e.srv.q)∧w'.cell? ⟨w.heap.size,6,none⟩ = some (.int .i64 x.e.srv.t)∧w'.cell? ⟨w.heap.size,7,none⟩ = some (.int .i64 x.e.po)∧w'.cell? ⟨w.heap.size,8,none⟩ = some (.slice x.a x.e.tasks.length x.c)∧w'.cell? ⟨w.heap.size,9,none⟩ = some (.int .i64 x.e.at_)) (simp (maxDischargeDepth:=8) [go_sem, *])
   (first
    | (go_at_call 122;refine (hk.out _).mono ?_;rintro e wf ⟨rfl,gf⟩;obtain ⟨cf,ff,sf⟩:=gf.cells;simp only [World.size_drew,zL] at cf sf;have kf:=fun o => cf kb o (by omega);have kf2:=fun o => cf w.heap.size o (by omega))
    | fail)
  go_wp2_with fail;go_ret;refine ⟨C5 e1.out.symm,?_⟩;exact (((Gr.refl w).alloc _).drew).trans gf
 ·have e1:Ca cl nu x.e = false:=by unfold Ca;simp [h3]
  have e2:(x.e.cl == cl) = true:=by simpa using h2
  have e3:(x.e.nu == nu) = false:=by simpa using h3
  clear h2 h3;replace e1:=zH e1;go_enter Tryz.func121,Tryz.ntmps121;go_wp2_with fail;go_region_held3 (fun w' => w'.cell? ⟨kb,0,none⟩ = some (.int .i64 cl)∧w'.cell? ⟨kb,1,none⟩ = some (.int .i64 nu)∧w'.cell? ⟨w.heap.size,0,none⟩ = some (.int .i64 x.e.cl)∧w'.cell? ⟨w.heap.size,1,none⟩ = some (.int .i64 x.e.nu)∧w'.cell? ⟨w.heap.size,2,none⟩ = some (.int .i64 x.e.kd)∧w'.cell? ⟨w.heap.size,3,none⟩ = some (.int .i64 x.e.id)∧w'.cell? ⟨w.heap.size,4,none⟩ = some (.int .i64 x.e.srv.k)∧w'.cell? ⟨w.heap.size,5,none⟩ = some (.int .i64 x.e.srv.q)∧w'.cell? ⟨w.heap.size,6,none⟩ = some (.int .i64 x.e.srv.t)∧w'.cell? ⟨w.heap.size,7,none⟩ = some (.int .i64 x.e.po)∧w'.cell? ⟨w.heap.size,8,none⟩ = some (.slice x.a x.e.tasks.length x.c)∧w'.cell? ⟨w.heap.size,9,none⟩ = some (.int .i64 x.e.at_)) (simp (maxDischargeDepth:=8) [go_sem, *])
   (first
    | (go_at_call 122;refine (hk.out _).mono ?_;rintro e wf ⟨rfl,gf⟩;obtain ⟨cf,ff,sf⟩:=gf.cells;simp only [World.size_drew,zL] at cf sf;have kf:=fun o => cf kb o (by omega);have kf2:=fun o => cf w.heap.size o (by omega))
    | fail)
  go_wp2_with fail;go_ret;refine ⟨C5 e1.out.symm,?_⟩;exact (((Gr.refl w).alloc _).drew).trans gf
def Hf (L:List At) (cl nu:Int):Int:=match L.findIdx? (fun x => Ca cl nu x.e) with
 | some i => (i:Int)
 | none => -1
theorem LP {L:List At} {cl nu:Int} {k:Nat} {x:At} (hb:∀ y ∈ L.take k,Ca cl nu y.e = false) (hx:L[k]? = some x) (h:Ca cl nu x.e = true):Hf L cl nu = k:=by
 have:L.findIdx? (fun x => Ca cl nu x.e) = some k:=by
  rw [List.findIdx?_eq_some_iff_getElem];have hk:=AQ hx;refine ⟨hk,?_,fun j hj => ?_⟩
  ·rw [List.getElem?_eq_getElem hk] at hx;rw [Option.some.inj hx];exact h
  ·have hm:L[j] ∈ L.take k:=List.mem_of_getElem? (i:=j) (by rw [List.getElem?_take];simp [hj]);rw [hb _ hm];decide
 unfold Hf;rw [this]
theorem Iv {L:List At} {cl nu:Int} (hb:∀ y ∈ L,Ca cl nu y.e = false):Hf L cl nu = -1:=by
 have:L.findIdx? (fun x => Ca cl nu x.e) = none:=by
  rw [List.findIdx?_eq_none_iff];intro x hx;rw [hb x hx]
 unfold Hf;rw [this]
theorem E0 (a:Option Addr) (c:Nat) (L:List At) (cl nu:Int) (kb:Nat) (w:World) (h:Cc Any w a L) (hm:L.length≤maxLen) (h0:w.cell? ⟨kb,0,none⟩ = some (.int .i64 cl)) (h1:w.cell? ⟨kb,1,none⟩ = some (.int .i64 nu)) (hb:kb < w.heap.size) :
 Calls Tryz.prog 120 #[.slice a L.length c,.func (.func 121) #[] #[.pointer (some ⟨kb,0,none⟩)]] w fun e w' => e = .returned (.int .i64 (Hf L cl nu))∧Gr w w':=by
 unfold maxLen at hm;go_enter Tryz.func120,Tryz.ntmps120;go_wp2_with fail;go_loopw [8] (fun iv wr => ∃ k:Nat,k≤L.length∧iv = .int .i64 k∧(∀ y ∈ L.take k,Ca cl nu y.e = false)∧Gr w wr) (fun iv _ => L.length - (intOf iv).toNat);case atStart => exact ⟨0,Nat.zero_le _,rfl,(fun _ h => by simp at h),Gr.refl _⟩
 case round =>
  obtain ⟨k,hk,rfl,hbf,hg⟩:=hrel;replace hbf:=zH hbf;have q0:=hg.cells.1 kb 0 hb;have q1:=hg.cells.1 kb 1 hb;rw [h0] at q0;rw [h1] at q1;have hb':kb < wr.heap.size:=Nat.lt_of_lt_of_le hb hg.size;by_cases hlt:k < L.length
  ·obtain ⟨x,hx⟩:=Ac L k hlt;obtain ⟨b,off,rfl,hbb,_,c0,c1,c2,c3,c4,c5,c6,c7,c8,c9⟩:=(h.gr hg).get hx;have hp:=Le x cl nu kb wr q0 q1 hb';cases hkey:Ca cl nu x.e
   ·rw [hkey] at hp;have hts:=Ae hx;have hbf2:∀ y ∈ L.take (k + 1),Ca cl nu y.e = false:=by
     intro y hy;rw [hts] at hy;rcases List.mem_append.1 hy with hy | hy
     ·exact hbf.out y hy
     ·rw [List.mem_singleton.1 hy];exact hkey
    refine AZ ?_ hp hbf2 hkey;clear hp hbf2 hkey;intro hp hbf2 hkey;clear hts;replace hx:=zH hx;go_wp2_with fail;refine (hp.out).mono ?_;rintro e wp ⟨rfl,gp⟩;obtain ⟨cp,fp,sp⟩:=gp.cells;try simp only [Aa] at cp fp sp
    try simp only [zL] at cp fp sp
    try simp only [zD] at cp fp sp
    try simp only [zS] at cp fp sp
    go_wp2_with fail;go_roundw;case rel => exact ⟨k + 1,by omega,by go_num,hbf2.out,hg.trans gp⟩
    case measure => simp [intOf];omega
   ·have hix:=LP hbf.out hx hkey;rw [hkey] at hp;refine B0 ?_ hp hkey hix hx;clear hp hkey hix hx;intro hp hkey hix hx;go_wp2_with fail;refine (hp.out).mono ?_;rintro e wp ⟨rfl,gp⟩;obtain ⟨cp,fp,sp⟩:=gp.cells;try simp only [Aa] at cp fp sp
    try simp only [zL] at cp fp sp
    try simp only [zD] at cp fp sp
    try simp only [zS] at cp fp sp
    go_wp2_with fail;go_ret;exact ⟨Hb hix.out.symm,hg.trans gp⟩
  ·have hall:L.take k = L:=List.take_of_length_le (by omega);have hbf2:=hbf.out;rw [hall] at hbf2;have hix:=Iv hbf2;clear hbf2;replace hix:=zH hix;go_wp2_with fail;go_ret;exact ⟨Hb hix.out.symm,hg⟩
theorem MH (a:Option Addr) (c:Nat) (L:List At) (cl nu:Int) (k:Nat) (w:World) (h:Cc Any w a L) (hm:L.length≤maxLen) (hk:Hf L cl nu = k) (hk':k < L.length) :
 Calls Tryz.prog 66 #[.slice a L.length c,.int .i64 cl,.int .i64 nu] w fun e w' => e = .returned (.tuple #[.int .i64 ((k:Int) + 1),.nilIface])∧Gr w w':=by
 have hix:=fun (w:World) h h0 h1 hb => E0 a c L cl nu w.heap.size (w.alloc (.cells #[.int .i64 cl,.int .i64 nu] 216)) h hm h0 h1 hb
 rw [hk] at hix;replace hix:=zH hix;unfold maxLen at hm;replace hk:=zH hk;go_enter Tryz.func66,Tryz.ntmps66;go_wp2_with fail;refine (hix.out w (h.gr ((Gr.refl w).alloc _)) (by simp [go_sem]) (by simp [go_sem]) (by simp)).mono ?_;rintro e w1 ⟨rfl,g1⟩;go_wp2_with fail;go_ret2;exact ⟨rfl,((Gr.refl w).alloc _).trans g1⟩
theorem NW {G:List Nat} {E:Nat→Addr} (a:Option Addr) (c:Nat) (L:List At) (cl nu:Int) (w:World) (hE:CK G E w) (i6:0 ∈ G) (h:Cc Any w a L) (hm:L.length≤maxLen) (hk:Hf L cl nu = -1) :
 Calls Tryz.prog 66 #[.slice a L.length c,.int .i64 cl,.int .i64 nu] w fun e w' => e = .returned (.tuple #[.int .i64 0,(Value.iface 384 (.pointer (some (E 0))))])∧Gr w w':=by
 have hix:=fun (w:World) h h0 h1 hb => E0 a c L cl nu w.heap.size (w.alloc (.cells #[.int .i64 cl,.int .i64 nu] 216)) h hm h0 h1 hb
 rw [hk] at hix;replace hix:=zH hix;replace hk:=zH hk;go_enter Tryz.func66,Tryz.ntmps66;go_wp2_with fail;refine (hix.out w (h.gr ((Gr.refl w).alloc _)) (by simp [go_sem]) (by simp [go_sem]) (by simp)).mono ?_;rintro e w1 ⟨rfl,g1⟩;have e6:=(hE.gr (((Gr.refl w).alloc _).trans g1)).c0 i6;go_wp2_with fail;go_quiet (fail);go_wp2_with fail;go_ret2;refine ⟨rfl,?_⟩;exact (((Gr.refl w).alloc _).trans g1).drewN _
end Go.Proofs.YtdfelohjdkcpkaaGreatDoor
