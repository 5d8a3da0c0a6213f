/- The law on who rises (FnHeightsRise),a part of its walk: what is drawn from the other bytes: counts,first orders,means. -/
import Derived.Test.YtleacijhpkogpadHBigU7
import Derived.Test.YtleacijhpkogpadHPackR
import Derived.Test.YtleacijhpkogpadHDraw
import Derived.Deep.DeepCutAuto
import Derived.Deep.CutRange
import Derived.Lib.OthersKept
import Derived.Deep.QuietTactic
import Derived.BigQuiet
import Derived.IntWalk
import Derived.Test.YtleacijhpkogpadHBigU4
import Derived.DataShut
set_option linter.unusedVariables false
set_option linter.unusedSimpArgs false
set_option maxHeartbeats 8000000
set_option maxRecDepth 1000000
namespace Go.Proofs.Ytleacijhpkogpad.HBigU
open Go.RowKit YtleacijhpkogpadW.PrintWords YtleacijhpkogpadW.PrintLast YtleacijhpkogpadW.PrintMore Part HImpl

theorem tail (Z2 : Option Addr) (z2 : Nat) (s2 : List Int) (w0 w : World) (HB0 : Aside0 (Below w0.heap.size w0 w)) {e0 e2 e3 e4 e5 e6 e7 e8 e9 e10 e11 e12 e13 e14 e15 e16 e17 e18 e19 e20 e21 e22 e23 e24 e25 e26 e27 e28 e29 e30 e31 e32 e33 e34 e35 e36 e37 e38 e39 e40 e41 e42 e43 e44 e45 e46 e47 e48 e49 e50 e51 e52 e53 e54 e55 e56 e57 e58 e59 e60 e61 e62 e63 e64 e65 e66 e67 e68 e69 e70 e71 e72 e73 e74 e75 e76 e77 e78 e79 e80 e81 e82 e83 e84 e85 e86 e87 e88 e89 e90 e91 e92 e93 e94 e95 e96 e97 e98 e99 e100 e101 e102 e103 e104 e105 e106 e107 e108 e109 e110 e111 e112 e113 e114 e115 e116 e117 e118 e119 e120 e121 e122 e123 e124 e125 e126 e127 e128 e129 e130 e131 e132 e133 e134 e135 e136 e137 e138 e139 e140 e141 e142 e143 e144 e145 e146 e147 e148 e149 e150 e151 e152 e153 e154 e155 e156 e157 e158 e159 e160 e161 e162 e163 e164 e165 e166 e167 e168 e169 e170 e171 e172 e173 e174 e175 e176 e177 e178 e179 e180 e181 e182 e183 e184 e185 e186 e187 e188 e189 e190 e191 e192 e193 e194 e195 e196 e197 e198 e199 e200 e201 e202 e203 e204 e205 e206 e207 e208 e209 e210 e211 e212 e213 e214 e215 e216 e217 e218 e219 e220 e221 e222 e223 e224 e225 e226 e227 e228 e229 e230 e231 e232 e233 e234 e235 e236 e237 e238 e239 e240 e241 e242 e243 e244 e245 e246 e247 e248 e249 e250 e251 e252 e253 e254 e255 e256 e257 e258 e259 e260 e261 e262 e263 e264 e265 e266 e267 e268 e269 e270 e271 e272 e273 e274 e275 e276 e277 e278 e279 e280 e281 e282 e283 e284 e285 e286 e287 e288 e289 e290 e291 e292 e293 e294 e295 e296 e297 e298 e299 e300 e301 e302 e303 e304 e305 e306 e307 e308 e309 e310 e311 e312 e313 e314 e315 e316 e317 e318 e319 e320 e321 e322 e323 e324 e325 e326 e327 e328 e329 e330 e331 e332 e333 e334 e335 e336 e337 e338 e339 e340 e341 e342 e343 e344 e345 e346 e347 e348 e349 e350 e351 e352 e353 e354 e355 e356 e357 e358 e359 e360 e361 e362 e363 e364 e365 e366 e367 e368 e369 e370 e371 e372 e373 e374 e375 e376 e377 e378 e379 e380 e381 e382 e383 e384 e385 e386 e387 e388 e389 e390 e391 e392 e393 e394 e395 e396 e397 e398 e399 e400 e401 e402 e403 e404 e405 e406 e407 e408 e409 e410 e411 e412 e413 e414 e415 e416 e417 e418 e419 e420 e421 e422 e423 e424 e425 e426 e427 e428 e429 e430 e431 e432 e433 e434 e435 e436 e437 e438 e439 e440 e441 e442 e443 e444 e445 e446 e447 e448 e449 e450 e451 e452 e453 e454 e455 e456 e457 e458 e459 e460 e461 e462 e463 e464 e465 e466 e467 e468 e469 e470 e471 e472 e473 e474 e475 e476 e477 e478 e479 e480 e481 e482 e483 e484 e485 e486 e487 e488 e489 e490 e491 e492 e493 e494 e495 e496 e497 e498 e499 e500 e501 e502 e503 e504 e505 e506 e507 e508 e509 e510 e511 e512 e513 e514 e515 e516 e517 e518 e519 e520 e521 e522 e523 e524 e525 e526 e527 e528 e529 e530 e531 e532 e533 e534 e535 e536 e537 e538 e539 e540 e541 e542 e543 : Value} (wr : World)
    (HB : Aside0 (Below w.heap.size w wr))
    (HS2 : Aside0 (HDraw.okB s2)) (HC2 : Aside0 (Kd.C (Kd.int .u8) w0 Z2 s2.length s2))
    : Code.wp Try.prog (seqOf Try.f4 42) (bodyPost Try.prog Try.f4 fun e w' => e = .returned (.bool true) ∧ Below w0.heap.size w0 w') ⟨#[e0,.slice Z2 s2.length z2,e2,e3,e4,e5,e6,e7,e8,e9,e10,e11,e12,e13,e14,e15,e16,e17,e18,e19,e20,e21,e22,e23,e24,e25,e26,e27,e28,e29,e30,e31,e32,e33,e34,e35,e36,e37,e38,e39,e40,e41,e42,e43,e44,e45,e46,e47,e48,e49,e50,e51,e52,e53,e54,e55,e56,e57,e58,e59,e60,e61,e62,e63,e64,e65,e66,e67,e68,e69,e70,e71,e72,e73,e74,e75,e76,e77,e78,e79,e80,e81,e82,e83,e84,e85,e86,e87,e88,e89,e90,e91,e92,e93,e94,e95,e96,e97,e98,e99,e100,e101,e102,e103,e104,e105,e106,e107,e108,e109,e110,e111,e112,e113,e114,e115,e116,e117,e118,e119,e120,e121,e122,e123,e124,e125,e126,e127,e128,e129,e130,e131,e132,e133,e134,e135,e136,e137,e138,e139,e140,e141,e142,e143,e144,e145,e146,e147,e148,e149,e150,e151,e152,e153,e154,e155,e156,e157,e158,e159,e160,e161,e162,e163,e164,e165,e166,e167,e168,e169,e170,e171,e172,e173,e174,e175,e176,e177,e178,e179,e180,e181,e182,e183,e184,e185,e186,e187,e188,e189,e190,e191,e192,e193,e194,e195,e196,e197,e198,e199,e200,e201,e202,e203,e204,e205,e206,e207,e208,e209,e210,e211,e212,e213,e214,e215,e216,e217,e218,e219,e220,e221,e222,e223,e224,e225,e226,e227,e228,e229,e230,e231,e232,e233,e234,e235,e236,e237,e238,e239,e240,e241,e242,e243,e244,e245,e246,e247,e248,e249,e250,e251,e252,e253,e254,e255,e256,e257,e258,e259,e260,e261,e262,e263,e264,e265,e266,e267,e268,e269,e270,e271,e272,e273,e274,e275,e276,e277,e278,e279,e280,e281,e282,e283,e284,e285,e286,e287,e288,e289,e290,e291,e292,e293,e294,e295,e296,e297,e298,e299,e300,e301,e302,e303,e304,e305,e306,e307,e308,e309,e310,e311,e312,e313,e314,e315,e316,e317,e318,e319,e320,e321,e322,e323,e324,e325,e326,e327,e328,e329,e330,e331,e332,e333,e334,e335,e336,e337,e338,e339,e340,e341,e342,e343,e344,e345,e346,e347,e348,e349,e350,e351,e352,e353,e354,e355,e356,e357,e358,e359,e360,e361,e362,e363,e364,e365,e366,e367,e368,e369,e370,e371,e372,e373,e374,e375,e376,e377,e378,e379,e380,e381,e382,e383,e384,e385,e386,e387,e388,e389,e390,e391,e392,e393,e394,e395,e396,e397,e398,e399,e400,e401,e402,e403,e404,e405,e406,e407,e408,e409,e410,e411,e412,e413,e414,e415,e416,e417,e418,e419,e420,e421,e422,e423,e424,e425,e426,e427,e428,e429,e430,e431,e432,e433,e434,e435,e436,e437,e438,e439,e440,e441,e442,e443,e444,e445,e446,e447,e448,e449,e450,e451,e452,e453,e454,e455,e456,e457,e458,e459,e460,e461,e462,e463,e464,e465,e466,e467,e468,e469,e470,e471,e472,e473,e474,e475,e476,e477,e478,e479,e480,e481,e482,e483,e484,e485,e486,e487,e488,e489,e490,e491,e492,e493,e494,e495,e496,e497,e498,e499,e500,e501,e502,e503,e504,e505,e506,e507,e508,e509,e510,e511,e512,e513,e514,e515,e516,e517,e518,e519,e520,e521,e522,e523,e524,e525,e526,e527,e528,e529,e530,e531,e532,e533,e534,e535,e536,e537,e538,e539,e540,e541,e542,e543],[]⟩ wr := by
  conv => arg 2; whnf
  have HBW := Aside0.mk (Below.refl w.heap.size w)
  go_wp2_with fail
  with_reducible refine (HDraw.draw_count Z2 z2 s2 HS2.out _ (Kd.C_below HC2.out (below_step HB0.out (below_step HBW.out (by repeat first|(with_reducible first|exact HB.out|apply below_alloc|apply pw_below_drewN|apply below_drew1)|exact HB.out))))).mono ?_
  rintro e wC ⟨m,lf,bh,rfl,hb⟩
  have HB0n := Aside0.mk (below_step HB0.out (below_step HBW.out (below_step (by repeat first|(with_reducible first|exact HB.out|apply below_alloc|apply pw_below_drewN|apply below_drew1)|exact HB.out) hb)))
  clear hb HB0 HBW HB
  have HB0 := HB0n
  clear HB0n
  have HBW := Aside0.mk (Below.refl wC.heap.size wC)
  have HB := Aside0.mk (Below.refl wC.heap.size wC)
  obtain ⟨ct,q1,hiCB,hsCB,hNB⟩ := HFactR.count_pack m lf bh wC
  try dsimp only
  have iCB := Aside0.mk hiCB
  have sCB := Aside0.mk hsCB
  have NB := Aside0.mk hNB
  clear hiCB hsCB hNB
  go_wp2_with (first | (go_at_call 44; with_reducible refine (iCB.out _ (below_step HBW.out (by repeat first|(with_reducible first|exact HB.out|apply below_alloc|apply pw_below_drewN|apply below_drew1)|exact HB.out))).mono ?_; rintro e w1 ⟨rfl,hb⟩; have HBn := Aside0.mk (below_step (by repeat first|(with_reducible first|exact HB.out|apply below_alloc|apply pw_below_drewN|apply below_drew1)|exact HB.out) hb); clear hb HB; have HB := HBn; clear HBn; try dsimp only) | (go_at_call 45; with_reducible refine (sCB.out _ (below_step HBW.out (by repeat first|(with_reducible first|exact HB.out|apply below_alloc|apply pw_below_drewN|apply below_drew1)|exact HB.out))).mono ?_; rintro e w2 ⟨rfl,hb⟩; have HBn := Aside0.mk (below_step (by repeat first|(with_reducible first|exact HB.out|apply below_alloc|apply pw_below_drewN|apply below_drew1)|exact HB.out) hb); clear hb HB; have HB := HBn; clear HBn; try dsimp only))
  with_reducible refine (HDraw.draw_first Z2 z2 s2 HS2.out _ (Kd.C_below HC2.out (below_step HB0.out (below_step HBW.out (by repeat first|(with_reducible first|exact HB.out|apply below_alloc|apply pw_below_drewN|apply below_drew1)|exact HB.out))))).mono ?_
  rintro e wF ⟨k,x,y,rfl,hb⟩
  have HBCF := Aside0.mk (below_step (by repeat first|(with_reducible first|exact HB.out|apply below_alloc|apply pw_below_drewN|apply below_drew1)|exact HB.out) hb)
  have NBn := Aside0.mk (fun h W (hb : Below wF.heap.size wF W) => NB.out h W (below_step HBCF.out hb))
  clear NB iCB sCB
  have NB := NBn
  clear NBn
  have HB0n := Aside0.mk (below_step HB0.out HBCF.out)
  clear hb HB0 HBW HB
  have HB0 := HB0n
  clear HB0n
  have HBW := Aside0.mk (Below.refl wF.heap.size wF)
  have HB := Aside0.mk (Below.refl wF.heap.size wF)
  clear HBCF
  obtain ⟨fi,q2,hiFB,hsFB,hEB,hFL⟩ := HFactR.first_pack k x y wF
  try dsimp only
  have iFB := Aside0.mk hiFB
  have sFB := Aside0.mk hsFB
  have EB := Aside0.mk hEB
  have FL := Aside0.mk hFL
  clear hiFB hsFB hEB hFL
  go_wp2_with fail
  refine (iFB.out _ (below_step HBW.out (by repeat first|(with_reducible first|exact HB.out|apply below_alloc|apply pw_below_drewN|apply below_drew1)|exact HB.out))).mono ?_
  rintro e wd11 ⟨vd11,rfl,ho,hb⟩
  obtain ⟨A11,k11,rfl,hlc,hC⟩ := Kd.R_reads ho
  have HC11 := Aside0.mk hC
  have HL11 := Aside0.mk hlc
  have HW11 := Aside0.mk hb
  have HBn := Aside0.mk (below_step (by repeat first|(with_reducible first|exact HB.out|apply below_alloc|apply pw_below_drewN|apply below_drew1)|exact HB.out) hb); clear hb HB; have HB := HBn; clear HBn; try dsimp only
  clear ho hlc hC
  go_wp2_with fail
  refine (sFB.out _ (below_step HBW.out (by repeat first|(with_reducible first|exact HB.out|apply below_alloc|apply pw_below_drewN|apply below_drew1)|exact HB.out))).mono ?_
  rintro e wd12 ⟨vd12,rfl,ho,hb⟩
  obtain ⟨A12,k12,rfl,hlc,hC⟩ := Kd.R_reads ho
  have HC12 := Aside0.mk hC
  have HL12 := Aside0.mk hlc
  have HW12 := Aside0.mk hb
  have HBn := Aside0.mk (below_step (by repeat first|(with_reducible first|exact HB.out|apply below_alloc|apply pw_below_drewN|apply below_drew1)|exact HB.out) hb); clear hb HB; have HB := HBn; clear HBn; try dsimp only
  clear ho hlc hC
  go_wp2_with fail
  with_reducible refine (HDraw.draw_mean Z2 z2 s2 HS2.out _ (Kd.C_below HC2.out (below_step HB0.out (below_step HBW.out (by repeat first|(with_reducible first|exact HB.out|apply below_alloc|apply pw_below_drewN|apply below_drew1)|exact HB.out))))).mono ?_
  rintro e wM ⟨pp,rfl,hb⟩
  have HD11 := Aside0.mk (Kd.C_below (Kd.C_below HC11.out HW12.out) hb)
  have HD12 := Aside0.mk (Kd.C_below HC12.out hb)
  have HBWn := Aside0.mk (below_step (by repeat first|(with_reducible first|exact HB.out|apply below_alloc|apply pw_below_drewN|apply below_drew1)|exact HB.out) hb)
  clear HBW HB HC11 HC12 HW11 HW12 hb iFB sFB
  have HBW := HBWn
  clear HBWn
  have HB := Aside0.mk (Below.refl wM.heap.size wM)
  obtain ⟨nu,de,q3,hiMS,hsMS,hMB⟩ := HFactR.mean_facts pp wF
  try dsimp only
  have iMS := Aside0.mk hiMS
  have sMS := Aside0.mk hsMS
  have MB := Aside0.mk hMB
  clear hiMS hsMS hMB
  have S1 := Aside0.mk (fun W (hb : Below wM.heap.size wM W) => HLawV.same_yes A11 k11 A12 k12 fi FL.out W (Kd.C_below HD11.out hb) HL11.out (Kd.C_below HD12.out hb) HL12.out)
  go_upto_region 51 with (first | (go_at_call 50; with_reducible refine (iMS.out _ (below_step HBW.out (by repeat first|(with_reducible first|exact HB.out|apply below_alloc|apply pw_below_drewN|apply below_drew1)|exact HB.out))).mono ?_; rintro e w5 ⟨rfl,⟨nd5,rfl⟩⟩; try dsimp only) | (go_at_call 51; with_reducible refine (sMS.out _ (below_step HBW.out (by repeat first|(with_reducible first|exact HB.out|apply below_alloc|apply pw_below_drewN|apply below_drew1)|exact HB.out))).mono ?_; rintro e w6 ⟨rfl,⟨nd6,rfl⟩⟩; try dsimp only))
  refine part47 fi ct nu de q1 q2 q3 A11 A12 k11 k12 wM _ ⟨(by repeat first|(with_reducible first|exact HB.out|apply below_alloc|apply pw_below_drewN|apply below_drew1)|exact HB.out)⟩ S1 _ _ ?_
  intro u387 u388 u389 u390 u391 u392 u393 u394 u395 u396 u397 u398 u399 u400 u401 u402 u403 u404 u405 u406 u407 u408 u409 u410 u411 u412 u413 u414 u415 u416 u417 u418 u419 u420 w40 h420 hb
  subst h420; clear HB; have HB := hb; clear hb S1 iMS sMS
  refine (by assumption : ∀ (a : Act) (w : World),Code.wp _ _ _ a w → _) _ _ ?_
  go_upto_if 420 with fail
  try simp only [List.append]
  go_cut [] from 421 to 421 (fun wx => Aside0 (Below wM.heap.size wM wx))
  case first =>
    go_wp2_with fail
    go_meet
    case rel => exact ⟨(by repeat first|(with_reducible first|exact HB.out|apply below_alloc|apply pw_below_drewN|apply below_drew1)|exact HB.out)⟩
  case rest =>
  clear HB
  have HB := hcut
  clear hcut
  cases q1 with
  | false =>
    clear NB
    refine (by assumption : ∀ (a : Act) (w : World),Code.wp _ _ _ a w → _) _ _ ?_
    go_upto_if 421 with fail
    refine partN_no wM _ ⟨(by repeat first|(with_reducible first|exact HB.out|apply below_alloc|apply pw_below_drewN|apply below_drew1)|exact HB.out)⟩ _ _ ?_
    intro Aa u58 u59 u422 u423 u424 u425 u426 u427 u428 u429 u430 u431 u432 u433 u434 u435 w41 hb
    clear HB; have HB := hb; clear hb
    cases q2 with
    | false =>
      clear EB
      refine (by assumption : ∀ (a : Act) (w : World),Code.wp _ _ _ a w → _) _ _ ?_
      go_upto_if 436 with fail
      refine partE_no wM _ ⟨(by repeat first|(with_reducible first|exact HB.out|apply below_alloc|apply pw_below_drewN|apply below_drew1)|exact HB.out)⟩ _ _ ?_
      intro Aa Ab Ac Ad Ae Af Ag Ap Aq Ar As At Au Av Aw Ax Ay Az A3 A4 A5 A6 A7 A8 Ba Bb Bc Bd Be Bf Bg Bh Bi Bj Bk Bl Bm Bn Bo Bp Bq Br Bs Bt Bu Bv Bw Bx By Bz B0 B1 B2 B3 B4 B5 w42 hb
      clear HB; have HB := hb; clear hb
      cases q3 with
      | false =>
        clear MB
        refine (by assumption : ∀ (a : Act) (w : World),Code.wp _ _ _ a w → _) _ _ ?_
        go_upto_if 486 with fail
        refine partM_no wM _ ⟨(by repeat first|(with_reducible first|exact HB.out|apply below_alloc|apply pw_below_drewN|apply below_drew1)|exact HB.out)⟩ _ _ ?_
        intro Aa Ah Ai Aj Ak Al Am An Ao B6 B7 B8 B9 Ca Cb Cc Cd Ce Cf Cg Ch Ci Cj Ck Cl Cm Cn Co Cp Cq Cr Cs Ct Cu Cv Cw Cx Cy Cz C0 C1 C2 C3 C4 C5 C6 C7 C8 C9 Da Db Dc Dd De Df Dg Dh Di Dj Dk Dl Dm Dn Do Dp Dq w43 hb
        clear HB; have HB := hb; clear hb
        refine (by assumption : ∀ (a : Act) (w : World),Code.wp _ _ _ a w → _) _ _ ?_
        go_wp2_with fail
        go_ret
        exact ⟨rfl,below_step HB0.out (below_step HBW.out (by repeat first|(with_reducible first|exact HB.out|apply below_alloc|apply pw_below_drewN|apply below_drew1)|exact HB.out))⟩
      | true =>
        obtain ⟨p,n,N,D,rfl,rfl,rfl,g1,g2,g3,g4,g5,g6⟩ := MB.out rfl
        clear MB
        have G1 := Aside0.mk g1; have G2 := Aside0.mk g2; have G3 := Aside0.mk g3; have G5 := Aside0.mk g5; have G6 := Aside0.mk g6
        have G4 := Aside0.mk (fun (i j : Nat) (hi : i ≤ p) (hj : j ≤ p) W (h : Below wM.heap.size wM W) => g4 i j hi hj W (below_step HBW.out h))
        clear g1 g2 g3 g4 g5 g6
        refine (by assumption : ∀ (a : Act) (w : World),Code.wp _ _ _ a w → _) _ _ ?_
        go_upto_if 486 with fail
        refine partM p n N D wM _ ⟨(by repeat first|(with_reducible first|exact HB.out|apply below_alloc|apply pw_below_drewN|apply below_drew1)|exact HB.out)⟩ G1 G2 G3 G4 G5 G6 _ _ ?_
        intro Aa Ah Ai Aj Ak Al Am An Ao B6 B7 B8 B9 Ca Cb Cc Cd Ce Cf Cg Ch Ci Cj Ck Cl Cm Cn Co Cp Cq Cr Cs Ct Cu Cv Cw Cx Cy Cz C0 C1 C2 C3 C4 C5 C6 C7 C8 C9 Da Db Dc Dd De Df Dg Dh Di Dj Dk Dl Dm Dn Do Dp Dq w43 hb
        clear HB; have HB := hb; clear hb
        refine (by assumption : ∀ (a : Act) (w : World),Code.wp _ _ _ a w → _) _ _ ?_
        go_wp2_with fail
        go_ret
        exact ⟨rfl,below_step HB0.out (below_step HBW.out (by repeat first|(with_reducible first|exact HB.out|apply below_alloc|apply pw_below_drewN|apply below_drew1)|exact HB.out))⟩
    | true =>
      obtain ⟨sl,sr,mn,rfl,rfl,rfl,g4,g5,g6,g7⟩ := EB.out rfl
      clear EB
      have G4 := Aside0.mk g4
      have G5 := Aside0.mk (fun W (h : Below wM.heap.size wM W) => g5 A11 k11 W (Kd.C_below HD11.out h) HL11.out)
      have G6 := Aside0.mk (fun W (h : Below wM.heap.size wM W) => g6 A11 k11 W (Kd.C_below HD11.out h) HL11.out)
      have G7 := Aside0.mk (fun W (h : Below wM.heap.size wM W) => g7 W (below_step HBW.out h))
      clear g4 g5 g6 g7
      refine (by assumption : ∀ (a : Act) (w : World),Code.wp _ _ _ a w → _) _ _ ?_
      go_upto_if 436 with fail
      refine partE fi sl sr mn A11 k11 wM _ ⟨(by repeat first|(with_reducible first|exact HB.out|apply below_alloc|apply pw_below_drewN|apply below_drew1)|exact HB.out)⟩ G4.out G5 G6 G7 _ _ ?_
      intro Aa Ab Ac Ad Ae Af Ag Ap Aq Ar As At Au Av Aw Ax Ay Az A3 A4 A5 A6 A7 A8 Ba Bb Bc Bd Be Bf Bg Bh Bi Bj Bk Bl Bm Bn Bo Bp Bq Br Bs Bt Bu Bv Bw Bx By Bz B0 B1 B2 B3 B4 B5 w42 hb
      clear HB; have HB := hb; clear hb
      clear G4 G5 G6 G7
      cases q3 with
      | false =>
        clear MB
        refine (by assumption : ∀ (a : Act) (w : World),Code.wp _ _ _ a w → _) _ _ ?_
        go_upto_if 486 with fail
        refine partM_no wM _ ⟨(by repeat first|(with_reducible first|exact HB.out|apply below_alloc|apply pw_below_drewN|apply below_drew1)|exact HB.out)⟩ _ _ ?_
        intro Aa Ah Ai Aj Ak Al Am An Ao B6 B7 B8 B9 Ca Cb Cc Cd Ce Cf Cg Ch Ci Cj Ck Cl Cm Cn Co Cp Cq Cr Cs Ct Cu Cv Cw Cx Cy Cz C0 C1 C2 C3 C4 C5 C6 C7 C8 C9 Da Db Dc Dd De Df Dg Dh Di Dj Dk Dl Dm Dn Do Dp Dq w43 hb
        clear HB; have HB := hb; clear hb
        refine (by assumption : ∀ (a : Act) (w : World),Code.wp _ _ _ a w → _) _ _ ?_
        go_wp2_with fail
        go_ret
        exact ⟨rfl,below_step HB0.out (below_step HBW.out (by repeat first|(with_reducible first|exact HB.out|apply below_alloc|apply pw_below_drewN|apply below_drew1)|exact HB.out))⟩
      | true =>
        obtain ⟨p,n,N,D,rfl,rfl,rfl,g1,g2,g3,g4,g5,g6⟩ := MB.out rfl
        clear MB
        have G1 := Aside0.mk g1; have G2 := Aside0.mk g2; have G3 := Aside0.mk g3; have G5 := Aside0.mk g5; have G6 := Aside0.mk g6
        have G4 := Aside0.mk (fun (i j : Nat) (hi : i ≤ p) (hj : j ≤ p) W (h : Below wM.heap.size wM W) => g4 i j hi hj W (below_step HBW.out h))
        clear g1 g2 g3 g4 g5 g6
        refine (by assumption : ∀ (a : Act) (w : World),Code.wp _ _ _ a w → _) _ _ ?_
        go_upto_if 486 with fail
        refine partM p n N D wM _ ⟨(by repeat first|(with_reducible first|exact HB.out|apply below_alloc|apply pw_below_drewN|apply below_drew1)|exact HB.out)⟩ G1 G2 G3 G4 G5 G6 _ _ ?_
        intro Aa Ah Ai Aj Ak Al Am An Ao B6 B7 B8 B9 Ca Cb Cc Cd Ce Cf Cg Ch Ci Cj Ck Cl Cm Cn Co Cp Cq Cr Cs Ct Cu Cv Cw Cx Cy Cz C0 C1 C2 C3 C4 C5 C6 C7 C8 C9 Da Db Dc Dd De Df Dg Dh Di Dj Dk Dl Dm Dn Do Dp Dq w43 hb
        clear HB; have HB := hb; clear hb
        refine (by assumption : ∀ (a : Act) (w : World),Code.wp _ _ _ a w → _) _ _ ?_
        go_wp2_with fail
        go_ret
        exact ⟨rfl,below_step HB0.out (below_step HBW.out (by repeat first|(with_reducible first|exact HB.out|apply below_alloc|apply pw_below_drewN|apply below_drew1)|exact HB.out))⟩
  | true =>
    have g3 := NB.out rfl
    clear NB
    have G3 := Aside0.mk (fun W (h : Below wM.heap.size wM W) => g3 W (below_step HBW.out h))
    clear g3
    refine (by assumption : ∀ (a : Act) (w : World),Code.wp _ _ _ a w → _) _ _ ?_
    go_upto_if 421 with fail
    refine partN m lf bh ct wM _ ⟨(by repeat first|(with_reducible first|exact HB.out|apply below_alloc|apply pw_below_drewN|apply below_drew1)|exact HB.out)⟩ G3 _ _ ?_
    intro Aa u58 u59 u422 u423 u424 u425 u426 u427 u428 u429 u430 u431 u432 u433 u434 u435 w41 hb
    clear HB; have HB := hb; clear hb
    clear G3
    cases q2 with
    | false =>
      clear EB
      refine (by assumption : ∀ (a : Act) (w : World),Code.wp _ _ _ a w → _) _ _ ?_
      go_upto_if 436 with fail
      refine partE_no wM _ ⟨(by repeat first|(with_reducible first|exact HB.out|apply below_alloc|apply pw_below_drewN|apply below_drew1)|exact HB.out)⟩ _ _ ?_
      intro Aa Ab Ac Ad Ae Af Ag Ap Aq Ar As At Au Av Aw Ax Ay Az A3 A4 A5 A6 A7 A8 Ba Bb Bc Bd Be Bf Bg Bh Bi Bj Bk Bl Bm Bn Bo Bp Bq Br Bs Bt Bu Bv Bw Bx By Bz B0 B1 B2 B3 B4 B5 w42 hb
      clear HB; have HB := hb; clear hb
      cases q3 with
      | false =>
        clear MB
        refine (by assumption : ∀ (a : Act) (w : World),Code.wp _ _ _ a w → _) _ _ ?_
        go_upto_if 486 with fail
        refine partM_no wM _ ⟨(by repeat first|(with_reducible first|exact HB.out|apply below_alloc|apply pw_below_drewN|apply below_drew1)|exact HB.out)⟩ _ _ ?_
        intro Aa Ah Ai Aj Ak Al Am An Ao B6 B7 B8 B9 Ca Cb Cc Cd Ce Cf Cg Ch Ci Cj Ck Cl Cm Cn Co Cp Cq Cr Cs Ct Cu Cv Cw Cx Cy Cz C0 C1 C2 C3 C4 C5 C6 C7 C8 C9 Da Db Dc Dd De Df Dg Dh Di Dj Dk Dl Dm Dn Do Dp Dq w43 hb
        clear HB; have HB := hb; clear hb
        refine (by assumption : ∀ (a : Act) (w : World),Code.wp _ _ _ a w → _) _ _ ?_
        go_wp2_with fail
        go_ret
        exact ⟨rfl,below_step HB0.out (below_step HBW.out (by repeat first|(with_reducible first|exact HB.out|apply below_alloc|apply pw_below_drewN|apply below_drew1)|exact HB.out))⟩
      | true =>
        obtain ⟨p,n,N,D,rfl,rfl,rfl,g1,g2,g3,g4,g5,g6⟩ := MB.out rfl
        clear MB
        have G1 := Aside0.mk g1; have G2 := Aside0.mk g2; have G3 := Aside0.mk g3; have G5 := Aside0.mk g5; have G6 := Aside0.mk g6
        have G4 := Aside0.mk (fun (i j : Nat) (hi : i ≤ p) (hj : j ≤ p) W (h : Below wM.heap.size wM W) => g4 i j hi hj W (below_step HBW.out h))
        clear g1 g2 g3 g4 g5 g6
        refine (by assumption : ∀ (a : Act) (w : World),Code.wp _ _ _ a w → _) _ _ ?_
        go_upto_if 486 with fail
        refine partM p n N D wM _ ⟨(by repeat first|(with_reducible first|exact HB.out|apply below_alloc|apply pw_below_drewN|apply below_drew1)|exact HB.out)⟩ G1 G2 G3 G4 G5 G6 _ _ ?_
        intro Aa Ah Ai Aj Ak Al Am An Ao B6 B7 B8 B9 Ca Cb Cc Cd Ce Cf Cg Ch Ci Cj Ck Cl Cm Cn Co Cp Cq Cr Cs Ct Cu Cv Cw Cx Cy Cz C0 C1 C2 C3 C4 C5 C6 C7 C8 C9 Da Db Dc Dd De Df Dg Dh Di Dj Dk Dl Dm Dn Do Dp Dq w43 hb
        clear HB; have HB := hb; clear hb
        refine (by assumption : ∀ (a : Act) (w : World),Code.wp _ _ _ a w → _) _ _ ?_
        go_wp2_with fail
        go_ret
        exact ⟨rfl,below_step HB0.out (below_step HBW.out (by repeat first|(with_reducible first|exact HB.out|apply below_alloc|apply pw_below_drewN|apply below_drew1)|exact HB.out))⟩
    | true =>
      obtain ⟨sl,sr,mn,rfl,rfl,rfl,g4,g5,g6,g7⟩ := EB.out rfl
      clear EB
      have G4 := Aside0.mk g4
      have G5 := Aside0.mk (fun W (h : Below wM.heap.size wM W) => g5 A11 k11 W (Kd.C_below HD11.out h) HL11.out)
      have G6 := Aside0.mk (fun W (h : Below wM.heap.size wM W) => g6 A11 k11 W (Kd.C_below HD11.out h) HL11.out)
      have G7 := Aside0.mk (fun W (h : Below wM.heap.size wM W) => g7 W (below_step HBW.out h))
      clear g4 g5 g6 g7
      refine (by assumption : ∀ (a : Act) (w : World),Code.wp _ _ _ a w → _) _ _ ?_
      go_upto_if 436 with fail
      refine partE fi sl sr mn A11 k11 wM _ ⟨(by repeat first|(with_reducible first|exact HB.out|apply below_alloc|apply pw_below_drewN|apply below_drew1)|exact HB.out)⟩ G4.out G5 G6 G7 _ _ ?_
      intro Aa Ab Ac Ad Ae Af Ag Ap Aq Ar As At Au Av Aw Ax Ay Az A3 A4 A5 A6 A7 A8 Ba Bb Bc Bd Be Bf Bg Bh Bi Bj Bk Bl Bm Bn Bo Bp Bq Br Bs Bt Bu Bv Bw Bx By Bz B0 B1 B2 B3 B4 B5 w42 hb
      clear HB; have HB := hb; clear hb
      clear G4 G5 G6 G7
      cases q3 with
      | false =>
        clear MB
        refine (by assumption : ∀ (a : Act) (w : World),Code.wp _ _ _ a w → _) _ _ ?_
        go_upto_if 486 with fail
        refine partM_no wM _ ⟨(by repeat first|(with_reducible first|exact HB.out|apply below_alloc|apply pw_below_drewN|apply below_drew1)|exact HB.out)⟩ _ _ ?_
        intro Aa Ah Ai Aj Ak Al Am An Ao B6 B7 B8 B9 Ca Cb Cc Cd Ce Cf Cg Ch Ci Cj Ck Cl Cm Cn Co Cp Cq Cr Cs Ct Cu Cv Cw Cx Cy Cz C0 C1 C2 C3 C4 C5 C6 C7 C8 C9 Da Db Dc Dd De Df Dg Dh Di Dj Dk Dl Dm Dn Do Dp Dq w43 hb
        clear HB; have HB := hb; clear hb
        refine (by assumption : ∀ (a : Act) (w : World),Code.wp _ _ _ a w → _) _ _ ?_
        go_wp2_with fail
        go_ret
        exact ⟨rfl,below_step HB0.out (below_step HBW.out (by repeat first|(with_reducible first|exact HB.out|apply below_alloc|apply pw_below_drewN|apply below_drew1)|exact HB.out))⟩
      | true =>
        obtain ⟨p,n,N,D,rfl,rfl,rfl,g1,g2,g3,g4,g5,g6⟩ := MB.out rfl
        clear MB
        have G1 := Aside0.mk g1; have G2 := Aside0.mk g2; have G3 := Aside0.mk g3; have G5 := Aside0.mk g5; have G6 := Aside0.mk g6
        have G4 := Aside0.mk (fun (i j : Nat) (hi : i ≤ p) (hj : j ≤ p) W (h : Below wM.heap.size wM W) => g4 i j hi hj W (below_step HBW.out h))
        clear g1 g2 g3 g4 g5 g6
        refine (by assumption : ∀ (a : Act) (w : World),Code.wp _ _ _ a w → _) _ _ ?_
        go_upto_if 486 with fail
        refine partM p n N D wM _ ⟨(by repeat first|(with_reducible first|exact HB.out|apply below_alloc|apply pw_below_drewN|apply below_drew1)|exact HB.out)⟩ G1 G2 G3 G4 G5 G6 _ _ ?_
        intro Aa Ah Ai Aj Ak Al Am An Ao B6 B7 B8 B9 Ca Cb Cc Cd Ce Cf Cg Ch Ci Cj Ck Cl Cm Cn Co Cp Cq Cr Cs Ct Cu Cv Cw Cx Cy Cz C0 C1 C2 C3 C4 C5 C6 C7 C8 C9 Da Db Dc Dd De Df Dg Dh Di Dj Dk Dl Dm Dn Do Dp Dq w43 hb
        clear HB; have HB := hb; clear hb
        refine (by assumption : ∀ (a : Act) (w : World),Code.wp _ _ _ a w → _) _ _ ?_
        go_wp2_with fail
        go_ret
        exact ⟨rfl,below_step HB0.out (below_step HBW.out (by repeat first|(with_reducible first|exact HB.out|apply below_alloc|apply pw_below_drewN|apply below_drew1)|exact HB.out))⟩
end Go.Proofs.Ytleacijhpkogpad.HBigU
/- The law on who rises (FnHeightsRise): the whole walk. -/
namespace Go.Proofs.Ytleacijhpkogpad.HBigU
open Go.RowKit YtleacijhpkogpadW.PrintWords YtleacijhpkogpadW.PrintLast YtleacijhpkogpadW.PrintMore Part HImpl

theorem whole (Z1 Z2 : Option Addr) (z1 z2 : Nat) (s1 s2 : List Int) (w0 : World) (hC1 : Kd.C (Kd.int .u8) w0 Z1 s1.length s1) (hL1 : s1.length ≤ z1) (hC2 : Kd.C (Kd.int .u8) w0 Z2 s2.length s2) (hL2 : s2.length ≤ z2) (hs1 : HDraw.okB s1) (hs2 : HDraw.okB s2) :
    Calls Try.prog 4 #[.slice Z1 s1.length z1,.slice Z2 s2.length z2] w0 fun e w' => e = .returned (.bool true) ∧ Below w0.heap.size w0 w' := by
  have HC1x := Aside0.mk hC1
  have HC2 := Aside0.mk hC2
  have HS1 := Aside0.mk hs1
  have HS2 := Aside0.mk hs2
  have HBIG := Aside0.mk (HPack.big_pack Z1 z1 s1 Z2 z2 s2 w0 hC1 hL1 hC2 hL2)
  clear hC1 hL1 hC2 hL2 hs1 hs2
  have HB := Aside0.mk (Below.refl w0.heap.size w0)
  go_enter Try.func4,Try.ntmps4
  obtain ⟨bg,hbg⟩ := HBIG.out
  go_wp2_with fail
  refine hbg.mono ?_
  rintro e wx ⟨rfl,⟨ndx,rfl⟩⟩
  clear hbg HBIG
  cases bg with
  | true =>
    go_wp2_with fail
    go_ret
    exact ⟨rfl,(by repeat first|(with_reducible first|exact HB.out|apply below_alloc|apply pw_below_drewN|apply below_drew1)|exact HB.out)⟩
  | false =>
  go_wp2_with fail
  with_reducible refine (HDraw.draw_rise Z1 z1 s1 HS1.out _ (Kd.C_below HC1x.out (by repeat first|(with_reducible first|exact HB.out|apply below_alloc|apply pw_below_drewN|apply below_drew1)|exact HB.out))).mono ?_
  rintro e w ⟨vL,l,rfl,hlL,ho,hb⟩
  obtain ⟨A0,c0,rfl,hLC,hC⟩ := Kd.R_reads ho
  have HB0 := Aside0.mk (below_step (by repeat first|(with_reducible first|exact HB.out|apply below_alloc|apply pw_below_drewN|apply below_drew1)|exact HB.out) hb)
  clear ho hb HB HC1x HS1
  obtain ⟨lr,rk,mi,mo,le,di,g,hiLR,hsLR,hiLM,hsLM,hiFL,hsFL,hiCD,hsCD,hiRK,hsRK,hiAH,hGG,hLEN⟩ := HPack.ten_pack A0 c0 l (Nat.le_trans hlL (by decide)) hLC w hC
  try dsimp only
  have iLR := Aside0.mk hiLR
  have sLR := Aside0.mk hsLR
  have iLM := Aside0.mk hiLM
  have sLM := Aside0.mk hsLM
  have iFL := Aside0.mk hiFL
  have sFL := Aside0.mk hsFL
  have iCD := Aside0.mk hiCD
  have sCD := Aside0.mk hsCD
  have iRK := Aside0.mk hiRK
  have sRK := Aside0.mk hsRK
  have iAH := Aside0.mk hiAH
  have GG := Aside0.mk hGG
  have LEN := Aside0.mk hLEN
  have C := Aside0.mk hC
  have LC := Aside0.mk hLC
  clear hiLR hsLR hiLM hsLM hiFL hsFL hiCD hsCD hiRK hsRK hiAH hGG hLEN hC hLC
  have HLEN := LEN
  clear LEN hlL
  have HC := C
  have HLC := LC
  clear C LC
  have HBW := Aside0.mk (Below.refl w.heap.size w)
  have HB := Aside0.mk (Below.refl w.heap.size w)
  go_wp2_with fail
  refine (iLR.out _ (below_step HBW.out (by repeat first|(with_reducible first|exact HB.out|apply below_alloc|apply pw_below_drewN|apply below_drew1)|exact HB.out))).mono ?_
  rintro e wd1 ⟨vd1,rfl,ho,hb⟩
  obtain ⟨A1,k1,rfl,hlc,hC⟩ := Kd.R_reads ho
  have HC1 := Aside0.mk hC
  have HL1 := Aside0.mk hlc
  have HW1 := Aside0.mk hb
  have HBn := Aside0.mk (below_step (by repeat first|(with_reducible first|exact HB.out|apply below_alloc|apply pw_below_drewN|apply below_drew1)|exact HB.out) hb); clear hb HB; have HB := HBn; clear HBn; try dsimp only
  clear ho hlc hC
  go_wp2_with fail
  refine (sLR.out _ (below_step HBW.out (by repeat first|(with_reducible first|exact HB.out|apply below_alloc|apply pw_below_drewN|apply below_drew1)|exact HB.out))).mono ?_
  rintro e wd2 ⟨vd2,rfl,ho,hb⟩
  obtain ⟨A2,k2,rfl,hlc,hC⟩ := Kd.R_reads ho
  have HC2 := Aside0.mk hC
  have HL2 := Aside0.mk hlc
  have HW2 := Aside0.mk hb
  have HBn := Aside0.mk (below_step (by repeat first|(with_reducible first|exact HB.out|apply below_alloc|apply pw_below_drewN|apply below_drew1)|exact HB.out) hb); clear hb HB; have HB := HBn; clear HBn; try dsimp only
  clear ho hlc hC
  go_wp2_with fail
  refine (iLM.out _ (below_step HBW.out (by repeat first|(with_reducible first|exact HB.out|apply below_alloc|apply pw_below_drewN|apply below_drew1)|exact HB.out))).mono ?_
  rintro e wd3 ⟨rfl,hb⟩
  have HW3 := Aside0.mk hb
  have HBn := Aside0.mk (below_step (by repeat first|(with_reducible first|exact HB.out|apply below_alloc|apply pw_below_drewN|apply below_drew1)|exact HB.out) hb); clear hb HB; have HB := HBn; clear HBn; try dsimp only
  go_wp2_with fail
  refine (sLM.out _ (below_step HBW.out (by repeat first|(with_reducible first|exact HB.out|apply below_alloc|apply pw_below_drewN|apply below_drew1)|exact HB.out))).mono ?_
  rintro e wd4 ⟨rfl,hb⟩
  have HW4 := Aside0.mk hb
  have HBn := Aside0.mk (below_step (by repeat first|(with_reducible first|exact HB.out|apply below_alloc|apply pw_below_drewN|apply below_drew1)|exact HB.out) hb); clear hb HB; have HB := HBn; clear HBn; try dsimp only
  go_wp2_with fail
  refine (iFL.out _ (below_step HBW.out (by repeat first|(with_reducible first|exact HB.out|apply below_alloc|apply pw_below_drewN|apply below_drew1)|exact HB.out))).mono ?_
  rintro e wd5 ⟨rfl,hb⟩
  have HW5 := Aside0.mk hb
  have HBn := Aside0.mk (below_step (by repeat first|(with_reducible first|exact HB.out|apply below_alloc|apply pw_below_drewN|apply below_drew1)|exact HB.out) hb); clear hb HB; have HB := HBn; clear HBn; try dsimp only
  go_wp2_with fail
  refine (sFL.out _ (below_step HBW.out (by repeat first|(with_reducible first|exact HB.out|apply below_alloc|apply pw_below_drewN|apply below_drew1)|exact HB.out))).mono ?_
  rintro e wd6 ⟨rfl,hb⟩
  have HW6 := Aside0.mk hb
  have HBn := Aside0.mk (below_step (by repeat first|(with_reducible first|exact HB.out|apply below_alloc|apply pw_below_drewN|apply below_drew1)|exact HB.out) hb); clear hb HB; have HB := HBn; clear HBn; try dsimp only
  go_wp2_with fail
  refine (iCD.out _ (below_step HBW.out (by repeat first|(with_reducible first|exact HB.out|apply below_alloc|apply pw_below_drewN|apply below_drew1)|exact HB.out))).mono ?_
  rintro e wd7 ⟨rfl,hb⟩
  have HW7 := Aside0.mk hb
  have HBn := Aside0.mk (below_step (by repeat first|(with_reducible first|exact HB.out|apply below_alloc|apply pw_below_drewN|apply below_drew1)|exact HB.out) hb); clear hb HB; have HB := HBn; clear HBn; try dsimp only
  go_wp2_with fail
  refine (sCD.out _ (below_step HBW.out (by repeat first|(with_reducible first|exact HB.out|apply below_alloc|apply pw_below_drewN|apply below_drew1)|exact HB.out))).mono ?_
  rintro e wd8 ⟨rfl,hb⟩
  have HW8 := Aside0.mk hb
  have HBn := Aside0.mk (below_step (by repeat first|(with_reducible first|exact HB.out|apply below_alloc|apply pw_below_drewN|apply below_drew1)|exact HB.out) hb); clear hb HB; have HB := HBn; clear HBn; try dsimp only
  go_wp2_with fail
  refine (iRK.out _ (below_step HBW.out (by repeat first|(with_reducible first|exact HB.out|apply below_alloc|apply pw_below_drewN|apply below_drew1)|exact HB.out))).mono ?_
  rintro e wd9 ⟨vd9,rfl,ho,hb⟩
  obtain ⟨A9,k9,rfl,hlc,hC⟩ := Kd.R_reads ho
  have HC9 := Aside0.mk hC
  have HL9 := Aside0.mk hlc
  have HW9 := Aside0.mk hb
  have HBn := Aside0.mk (below_step (by repeat first|(with_reducible first|exact HB.out|apply below_alloc|apply pw_below_drewN|apply below_drew1)|exact HB.out) hb); clear hb HB; have HB := HBn; clear HBn; try dsimp only
  clear ho hlc hC
  go_wp2_with fail
  refine (sRK.out _ (below_step HBW.out (by repeat first|(with_reducible first|exact HB.out|apply below_alloc|apply pw_below_drewN|apply below_drew1)|exact HB.out))).mono ?_
  rintro e wd10 ⟨vd10,rfl,ho,hb⟩
  obtain ⟨A10,k10,rfl,hlc,hC⟩ := Kd.R_reads ho
  have HC10 := Aside0.mk hC
  have HL10 := Aside0.mk hlc
  have HW10 := Aside0.mk hb
  have HBn := Aside0.mk (below_step (by repeat first|(with_reducible first|exact HB.out|apply below_alloc|apply pw_below_drewN|apply below_drew1)|exact HB.out) hb); clear hb HB; have HB := HBn; clear HBn; try dsimp only
  clear ho hlc hC
  clear HBW
  have HBW := HB
  clear HB
  have HB := Aside0.mk (Below.refl wd10.heap.size wd10)
  have HD1 := Aside0.mk ((Kd.C_below (Kd.C_below (Kd.C_below (Kd.C_below (Kd.C_below (Kd.C_below (Kd.C_below (Kd.C_below (Kd.C_below HC1.out HW2.out) HW3.out) HW4.out) HW5.out) HW6.out) HW7.out) HW8.out) HW9.out) HW10.out))
  have HD2 := Aside0.mk ((Kd.C_below (Kd.C_below (Kd.C_below (Kd.C_below (Kd.C_below (Kd.C_below (Kd.C_below (Kd.C_below HC2.out HW3.out) HW4.out) HW5.out) HW6.out) HW7.out) HW8.out) HW9.out) HW10.out))
  have HD9 := Aside0.mk ((Kd.C_below HC9.out HW10.out))
  have HD10 := Aside0.mk (HC10.out)
  clear HC1 HC2 HC9 HC10 HW2 HW3 HW4 HW5 HW6 HW7 HW8 HW9 HW10
  have S0 := Aside0.mk (fun W (hb : Below wd10.heap.size wd10 W) => HLawV.same_yes A1 k1 A2 k2 lr HLEN.out.1 W (Kd.C_below HD1.out hb) HL1.out (Kd.C_below HD2.out hb) HL2.out)
  have S1 := Aside0.mk (fun W (hb : Below wd10.heap.size wd10 W) => HLawV.same_yes A9 k9 A10 k10 rk HLEN.out.2 W (Kd.C_below HD9.out hb) HL9.out (Kd.C_below HD10.out hb) HL10.out)
  have I1 := Aside0.mk (fun W (hb : Below wd10.heap.size wd10 W) => iAH.out W (below_step HBW.out hb))
  go_upto_region 14 with fail
  refine part13 l A0 c0 g mo le di wd10 _ ⟨(by repeat first|(with_reducible first|exact HB.out|apply below_alloc|apply pw_below_drewN|apply below_drew1)|exact HB.out)⟩ S0 S1 I1 _ _ ?_
  intro u129 u130 u131 u132 u133 u134 u135 u136 u137 u138 u139 u140 u141 u142 u143 u144 u145 u146 u147 u148 u149 u150 u151 u152 u153 u154 u155 u156 u157 u158 u159 u160 u161 u162 u163 u164 u165 u166 u167 u168 u169 u170 u171 u172 u173 u174 u175 u176 u177 u178 u179 u180 u181 u182 u183 u184 u185 u186 u187 u188 u189 u190 u191 u192 u193 u194 u195 u196 u197 u198 u199 u200 u201 u202 u203 u204 w13 h206 hb
  subst h206; clear HB; have HB := hb; clear hb S0 S1 I1
  refine (by assumption : ∀ (a : Act) (w : World),Code.wp _ _ _ a w → _) _ _ ?_
  go_upto_if 204 with fail
  try simp only [List.append]
  go_cut [] from 205 to 205 (fun wx => Aside0 (Below wd10.heap.size wd10 wx))
  case first =>
    go_wp2_with fail
    go_meet
    case rel => exact ⟨(by repeat first|(with_reducible first|exact HB.out|apply below_alloc|apply pw_below_drewN|apply below_drew1)|exact HB.out)⟩
  case rest =>
  clear HB
  have HB := hcut
  clear hcut
  cases g with
  | false =>
    refine (by assumption : ∀ (a : Act) (w : World),Code.wp _ _ _ a w → _) _ _ ?_
    go_upto_if 205 with fail
    refine partA_no wd10 _ ⟨(by repeat first|(with_reducible first|exact HB.out|apply below_alloc|apply pw_below_drewN|apply below_drew1)|exact HB.out)⟩ _ _ ?_
    intro Aa u26 u27 u28 u29 u30 u32 u33 u34 u35 u36 u206 u207 u208 u209 u210 u211 u212 u213 u214 u215 u216 u217 u218 u219 u220 u221 u222 u223 u224 u225 u226 u227 u228 u229 u230 u231 u232 u233 u234 u235 u236 u237 u238 u239 u240 u241 u242 u243 u244 u245 u246 u247 u248 u249 u250 u251 u252 u253 u254 u255 u256 u257 u258 u259 u260 u261 u262 u263 u264 u265 u266 u267 u268 u269 u270 u271 u272 u273 u274 u275 u276 u277 u278 u279 u280 u281 u282 u283 u284 u285 u286 u287 u288 u289 u290 u291 u292 u293 u294 u295 u296 u297 u298 u299 u300 u301 u302 u303 u304 u305 u306 u307 u308 u309 u310 u311 u312 u313 u314 u315 u316 u317 u318 u319 u320 u321 u322 u323 u324 u325 u326 u327 u328 u329 u330 u331 u332 w22  hb
    clear HB; have HB := hb; clear hb
    refine (by assumption : ∀ (a : Act) (w : World),Code.wp _ _ _ a w → _) _ _ ?_
    have HBx := Aside0.mk (below_step HB0.out (below_step HBW.out (by repeat first|(with_reducible first|exact HB.out|apply below_alloc|apply pw_below_drewN|apply below_drew1)|exact HB.out)))
    exact tail Z2 z2 s2 w0 w22 HBx _ ⟨Below.refl _ _⟩ HS2 HC2
  | true =>
    obtain ⟨D,Sm,rfl,q0,q1,q2,q3,q4,q5,q6,q7,q8,q9,q10,q11,q12,q13,q14,q15,q16,qc1,qc2⟩ := GG.out rfl
    clear GG
    have qcc1 := fun W (h : Below wd10.heap.size wd10 W) => qc1 W (below_step HBW.out h)
    refine (by assumption : ∀ (a : Act) (w : World),Code.wp _ _ _ a w → _) _ _ ?_
    go_upto_if 205 with fail
    refine partA l lr rk mi D mo le Sm A0 A1 A9 c0 k1 k9 wd10 _ ⟨(by repeat first|(with_reducible first|exact HB.out|apply below_alloc|apply pw_below_drewN|apply below_drew1)|exact HB.out)⟩ ⟨q0⟩ ⟨q1⟩ ⟨q2⟩ ⟨q3⟩ ⟨q4⟩ ⟨q5⟩ ⟨q6⟩ ⟨q7⟩ ⟨q8⟩ ⟨q9⟩ ⟨q10⟩ ⟨q11⟩ ⟨q12⟩ ⟨q13⟩ ⟨q14⟩ ⟨q15⟩ ⟨q16⟩ ⟨Kd.C_below HC.out HBW.out⟩ HLC HD1 HL1 HD9 HL9 ⟨qcc1⟩ ⟨qc2⟩ _ _ ?_
    clear q0 q1 q2 q3 q4 q5 q6 q7 q8 q9 q10 q11 q12 q13 q14 q15 q16 qc1 qc2 qcc1
    intro Aa u26 u27 u28 u29 u30 u32 u33 u34 u35 u36 u206 u207 u208 u209 u210 u211 u212 u213 u214 u215 u216 u217 u218 u219 u220 u221 u222 u223 u224 u225 u226 u227 u228 u229 u230 u231 u232 u233 u234 u235 u236 u237 u238 u239 u240 u241 u242 u243 u244 u245 u246 u247 u248 u249 u250 u251 u252 u253 u254 u255 u256 u257 u258 u259 u260 u261 u262 u263 u264 u265 u266 u267 u268 u269 u270 u271 u272 u273 u274 u275 u276 u277 u278 u279 u280 u281 u282 u283 u284 u285 u286 u287 u288 u289 u290 u291 u292 u293 u294 u295 u296 u297 u298 u299 u300 u301 u302 u303 u304 u305 u306 u307 u308 u309 u310 u311 u312 u313 u314 u315 u316 u317 u318 u319 u320 u321 u322 u323 u324 u325 u326 u327 u328 u329 u330 u331 u332 w22 hb
    clear HB; have HB := hb; clear hb
    refine (by assumption : ∀ (a : Act) (w : World),Code.wp _ _ _ a w → _) _ _ ?_
    have HBx := Aside0.mk (below_step HB0.out (below_step HBW.out (by repeat first|(with_reducible first|exact HB.out|apply below_alloc|apply pw_below_drewN|apply below_drew1)|exact HB.out)))
    exact tail Z2 z2 s2 w0 w22 HBx _ ⟨Below.refl _ _⟩ HS2 HC2
end Go.Proofs.Ytleacijhpkogpad.HBigU
/- The drawn law on who rises (FnHeightsRise): its walk,for bytes as they come in. -/
namespace Go.Proofs.Ytleacijhpkogpad.HLaw
open Go.RowKit YtleacijhpkogpadW.PrintWords YtleacijhpkogpadW.PrintLast YtleacijhpkogpadW.PrintMore

theorem okB_of {s : List Int} (h : ∀ x ∈ s,(Lit.int .u8 x).wf = true) : HDraw.okB s := fun x hx => by
  have := (Lit.wf_int_iff .u8 x).1 (h x hx)
  exact ⟨this.1,this.2⟩
theorem HeightsRise_walk (A1 : Option Addr) (c1 : Nat) (s1 : List Int) (A2 : Option Addr) (c2 : Nat) (s2 : List Int) (w : World) (hC1 : Kd.C (Kd.int .u8) w A1 s1.length s1) (hL1 : s1.length ≤ c1) (_ : s1.length ≤ maxLen) (hw1 : ∀ x ∈ s1, (Lit.int .u8 x).wf = true)
    (hC2 : Kd.C (Kd.int .u8) w A2 s2.length s2) (hL2 : s2.length ≤ c2) (_ : s2.length ≤ maxLen) (hw2 : ∀ x ∈ s2,(Lit.int .u8 x).wf = true) :
    Calls Try.prog 4 #[.slice A1 s1.length c1,.slice A2 s2.length c2] w fun e w' => e = .returned (.bool true) ∧ Below w.heap.size w w' :=
  HBigU.whole A1 A2 c1 c2 s1 s2 w hC1 hL1 hC2 hL2 (okB_of hw1) (okB_of hw2)
end Go.Proofs.Ytleacijhpkogpad.HLaw
