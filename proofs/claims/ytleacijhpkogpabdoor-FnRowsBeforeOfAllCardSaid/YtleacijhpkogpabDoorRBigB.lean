/- The law on rows before (FnRowsBeforeOfAll), a part of its walk: what is said of the rows before. -/
import Derived.Test.YtleacijhpkogpabDoorRLawH
import Derived.Test.YtleacijhpkogpabDoorRCode
import Derived.Deep.DeepCutAuto
import Derived.Deep.CutRange
import Derived.Laws.Cover1
namespace Go.Proofs.YtleacijhpkogpabDoor.RBig
open Go.RowKit Go.Proofs.YtleacijhpkogpabDoorW.PrintWords Go.Proofs.YtleacijhpkogpabDoorW.PrintLast Go.Proofs.YtleacijhpkogpabDoorW.PrintMore Go.Proofs.YtleacijhpkogpabDoor.Part
set_option linter.unusedVariables false
set_option linter.unusedSimpArgs false

set_option maxHeartbeats 8000000 in
set_option maxRecDepth 1000000 in
theorem partA_no (row : ByteArray) (g : List ByteArray) (A1 : Option Addr) (c1 : Nat) (hb1 : Bool) (w w1 : World) (e1 e2 e3 e4 e5 e6 e7 e8 e9 e10 e13 e14 e16 e17 e18 e19 e20 e21 e22 e23 e24 e25 e26 e27 e28 e29 e30 e31 e32 e33 e34 e35 e36 e37 e38 e39 e40 e41 e42 e43 e44 e45 e46 e47 e48 e49 e50 e51 e52 e53 e54 e55 e56 e57 e58 e59 e60 e61 e62 e63 e64 e65 e66 e67 e68 e69 e70 e71 e72 e73 e74 e75 e76 e77 e78 e79 e80 e81 e82 e83 e84 e85 e86 e87 e88 e89 e90 e91 e92 e93 e94 e95 e96 e97 e98 e100 e101 e102 e103 e104 e105 e106 e107 e108 e109 e110 e111 e112 e113 e114 e115 e116 e117 e118 e119 e120 e121 e122 e123 e124 e125 e126 e127 e128 e129 e130 e131 e132 e133 e134 e135 e136 e137 e138 e139 e140 e141 e142 e143 e144 e145 e146 e147 e148 e149 e150 e151 e152 e153 e154 e155 e156 e157 e158 e159 e160 e161 e162 e163 e164 e165 e166 e167 e168 e169 e170 e171 e172 e173 e174 e175 e176 e177 e178 e179 e180 e181 e182 e183 e184 e185 e186 e187 e188 e189 e190 e191 e192 e193 e194 e195 e196 e197 e198 e199 e200 e201 e202 e203 e204 e205 e206 e207 e208 e209 e210 e211 e212 e213 e214 e215 e216 e217 e218 e219 e220 e221 e222 e223 e224 e225 e226 e227 e228 e229 e230 e231 e232 e233 e234 e235 e236 e237 e238 e239 e240 e241 e242 e243 e244 e245 e246 e247 e248 e249 e250 e251 e252 e253 e254 e255 e256 e257 e258 e259 e260 e261 e262 e263 e264 e265 e266 e267 e268 e269 e270 e271 e272 e273 e274 e275 e276 e277 e278 e279 e280 e281 e282 e283 e284 e285 e286 e287 e288 e289 e290 e291 e292 e293 e294 e295 e296 e297 e298 e299 e300 e301 e302 e303 e304 e305 e306 e307 e308 e309 e310 e311 e312 e313 e314 e315 e316 e317 e318 e319 e320 e321 e322 e323 e324 e325 e326 e327 e328 e329 e330 e331 e332 e333 e334 e335 e336 e337 e338 e339 e340 e341 e342 e343 e344 e345 e346 e347 e348 e349 e350 e351 e352 e353 e354 e355 e356 e357 e358 : Value) (wr : World)
    (HB : Aside0 (Below w1.heap.size w1 wr))
    (Q' : Exit → Act → World → Prop) (K' J : Act → World → Prop) (hK : ∀ (a' : Act) (w' : World), Met J a' w' → K' a' w')
    (hJ : ∀ (a' : Act) (w' : World), (∃ u10 u19 u20 u21 u22 u23 u24 u100 u101 u102 u103 u104 u105 u106 u107 u108 u109 u110 u111 u112 u113 u114 u115 u116 u117 u118 u119 u120 u121 u122 u123 u124 u125 u126 u127 u128 u129 u130 u131 u132 u133 u134 u135 u136 u137 u138 u139 u140 u141 u142 u143 u144 u145 u146 u147 u148 u149 u150 u151 u152 u153 u154 u155 : Value, (Aside0 (Below w1.heap.size w1 w')) ∧ a' = ⟨#[.string row, e1, e2, e3, e4, e5, e6, e7, e8, e9, u10, .slice A1 g.length c1, .bool false, e13, e14, .bool hb1, e16, e17, e18, u19, u20, u21, u22, u23, u24, e25, e26, e27, e28, e29, e30, e31, e32, e33, e34, e35, e36, e37, e38, e39, e40, e41, e42, e43, e44, e45, e46, e47, e48, e49, e50, e51, e52, e53, e54, e55, e56, e57, e58, e59, e60, e61, e62, e63, e64, e65, e66, e67, e68, e69, e70, e71, e72, e73, e74, e75, e76, e77, e78, e79, e80, e81, e82, e83, e84, e85, e86, e87, e88, e89, e90, e91, e92, e93, e94, e95, e96, e97, e98, .bool false, u100, u101, u102, u103, u104, u105, u106, u107, u108, u109, u110, u111, u112, u113, u114, u115, u116, u117, u118, u119, u120, u121, u122, u123, u124, u125, u126, u127, u128, u129, u130, u131, u132, u133, u134, u135, u136, u137, u138, u139, u140, u141, u142, u143, u144, u145, u146, u147, u148, u149, u150, u151, u152, u153, u154, u155, e156, e157, e158, e159, e160, e161, e162, e163, e164, e165, e166, e167, e168, e169, e170, e171, e172, e173, e174, e175, e176, e177, e178, e179, e180, e181, e182, e183, e184, e185, e186, e187, e188, e189, e190, e191, e192, e193, e194, e195, e196, e197, e198, e199, e200, e201, e202, e203, e204, e205, e206, e207, e208, e209, e210, e211, e212, e213, e214, e215, e216, e217, e218, e219, e220, e221, e222, e223, e224, e225, e226, e227, e228, e229, e230, e231, e232, e233, e234, e235, e236, e237, e238, e239, e240, e241, e242, e243, e244, e245, e246, e247, e248, e249, e250, e251, e252, e253, e254, e255, e256, e257, e258, e259, e260, e261, e262, e263, e264, e265, e266, e267, e268, e269, e270, e271, e272, e273, e274, e275, e276, e277, e278, e279, e280, e281, e282, e283, e284, e285, e286, e287, e288, e289, e290, e291, e292, e293, e294, e295, e296, e297, e298, e299, e300, e301, e302, e303, e304, e305, e306, e307, e308, e309, e310, e311, e312, e313, e314, e315, e316, e317, e318, e319, e320, e321, e322, e323, e324, e325, e326, e327, e328, e329, e330, e331, e332, e333, e334, e335, e336, e337, e338, e339, e340, e341, e342, e343, e344, e345, e346, e347, e348, e349, e350, e351, e352, e353, e354, e355, e356, e357, e358], []⟩) → J a' w') :
    Code.wp Tryd.prog (condOf Tryd.f6 99) (Exit.then K' Q') ⟨#[.string row, e1, e2, e3, e4, e5, e6, e7, e8, e9, e10, .slice A1 g.length c1, .bool false, e13, e14, .bool hb1, e16, e17, e18, e19, e20, e21, e22, e23, e24, e25, e26, e27, e28, e29, e30, e31, e32, e33, e34, e35, e36, e37, e38, e39, e40, e41, e42, e43, e44, e45, e46, e47, e48, e49, e50, e51, e52, e53, e54, e55, e56, e57, e58, e59, e60, e61, e62, e63, e64, e65, e66, e67, e68, e69, e70, e71, e72, e73, e74, e75, e76, e77, e78, e79, e80, e81, e82, e83, e84, e85, e86, e87, e88, e89, e90, e91, e92, e93, e94, e95, e96, e97, e98, .bool false, e100, e101, e102, e103, e104, e105, e106, e107, e108, e109, e110, e111, e112, e113, e114, e115, e116, e117, e118, e119, e120, e121, e122, e123, e124, e125, e126, e127, e128, e129, e130, e131, e132, e133, e134, e135, e136, e137, e138, e139, e140, e141, e142, e143, e144, e145, e146, e147, e148, e149, e150, e151, e152, e153, e154, e155, e156, e157, e158, e159, e160, e161, e162, e163, e164, e165, e166, e167, e168, e169, e170, e171, e172, e173, e174, e175, e176, e177, e178, e179, e180, e181, e182, e183, e184, e185, e186, e187, e188, e189, e190, e191, e192, e193, e194, e195, e196, e197, e198, e199, e200, e201, e202, e203, e204, e205, e206, e207, e208, e209, e210, e211, e212, e213, e214, e215, e216, e217, e218, e219, e220, e221, e222, e223, e224, e225, e226, e227, e228, e229, e230, e231, e232, e233, e234, e235, e236, e237, e238, e239, e240, e241, e242, e243, e244, e245, e246, e247, e248, e249, e250, e251, e252, e253, e254, e255, e256, e257, e258, e259, e260, e261, e262, e263, e264, e265, e266, e267, e268, e269, e270, e271, e272, e273, e274, e275, e276, e277, e278, e279, e280, e281, e282, e283, e284, e285, e286, e287, e288, e289, e290, e291, e292, e293, e294, e295, e296, e297, e298, e299, e300, e301, e302, e303, e304, e305, e306, e307, e308, e309, e310, e311, e312, e313, e314, e315, e316, e317, e318, e319, e320, e321, e322, e323, e324, e325, e326, e327, e328, e329, e330, e331, e332, e333, e334, e335, e336, e337, e338, e339, e340, e341, e342, e343, e344, e345, e346, e347, e348, e349, e350, e351, e352, e353, e354, e355, e356, e357, e358], []⟩ wr := by
  conv => arg 2; whnf
  have HJ := Aside0.mk hJ
  have HKK := Aside0.mk hK
  clear hJ hK
  go_wp2_with fail
  have hJ := HJ.out
  refine HKK.out _ _ ?_
  go_meet
  case rel => exact HB
set_option maxHeartbeats 8000000 in
set_option maxRecDepth 1000000 in
theorem partA_yes (row : ByteArray) (g : List ByteArray) (A1 : Option Addr) (c1 : Nat) (hb1 : Bool) (w w1 : World) (e1 e2 e3 e4 e5 e6 e7 e8 e9 e10 e13 e14 e16 e17 e18 e19 e20 e21 e22 e23 e24 e25 e26 e27 e28 e29 e30 e31 e32 e33 e34 e35 e36 e37 e38 e39 e40 e41 e42 e43 e44 e45 e46 e47 e48 e49 e50 e51 e52 e53 e54 e55 e56 e57 e58 e59 e60 e61 e62 e63 e64 e65 e66 e67 e68 e69 e70 e71 e72 e73 e74 e75 e76 e77 e78 e79 e80 e81 e82 e83 e84 e85 e86 e87 e88 e89 e90 e91 e92 e93 e94 e95 e96 e97 e98 e100 e101 e102 e103 e104 e105 e106 e107 e108 e109 e110 e111 e112 e113 e114 e115 e116 e117 e118 e119 e120 e121 e122 e123 e124 e125 e126 e127 e128 e129 e130 e131 e132 e133 e134 e135 e136 e137 e138 e139 e140 e141 e142 e143 e144 e145 e146 e147 e148 e149 e150 e151 e152 e153 e154 e155 e156 e157 e158 e159 e160 e161 e162 e163 e164 e165 e166 e167 e168 e169 e170 e171 e172 e173 e174 e175 e176 e177 e178 e179 e180 e181 e182 e183 e184 e185 e186 e187 e188 e189 e190 e191 e192 e193 e194 e195 e196 e197 e198 e199 e200 e201 e202 e203 e204 e205 e206 e207 e208 e209 e210 e211 e212 e213 e214 e215 e216 e217 e218 e219 e220 e221 e222 e223 e224 e225 e226 e227 e228 e229 e230 e231 e232 e233 e234 e235 e236 e237 e238 e239 e240 e241 e242 e243 e244 e245 e246 e247 e248 e249 e250 e251 e252 e253 e254 e255 e256 e257 e258 e259 e260 e261 e262 e263 e264 e265 e266 e267 e268 e269 e270 e271 e272 e273 e274 e275 e276 e277 e278 e279 e280 e281 e282 e283 e284 e285 e286 e287 e288 e289 e290 e291 e292 e293 e294 e295 e296 e297 e298 e299 e300 e301 e302 e303 e304 e305 e306 e307 e308 e309 e310 e311 e312 e313 e314 e315 e316 e317 e318 e319 e320 e321 e322 e323 e324 e325 e326 e327 e328 e329 e330 e331 e332 e333 e334 e335 e336 e337 e338 e339 e340 e341 e342 e343 e344 e345 e346 e347 e348 e349 e350 e351 e352 e353 e354 e355 e356 e357 e358 : Value) (wr : World)
    (HB1 : Aside0 (Below w.heap.size w w1)) (HC : Aside0 (Kd.C Kd.string w1 A1 g.length g)) (HLC : Aside0 (g.length ≤ c1)) (HG : Aside0 (g.length ≤ 1048576))
    (HF1 : Aside0 (hb1 = decide (0 < g.length) ∧ ∃ st : Bool, (∀ W, Below w.heap.size w W → Calls Tryd.prog 22 #[.string row] W fun e w' => e = .returned (.tuple #[.bool st, .bool true]) ∧ Below W.heap.size W w') ∧ (st = true → row ∈ g) ∧
      ∀ i : Nat, i < g.length → (∀ W, Below w.heap.size w W → Calls Tryd.prog 24 #[.string (rdOf ByteArray.empty g (i : Int))] W fun e w' => e = .returned (.tuple #[.string row, .bool true]) ∧ Below W.heap.size W w') ∧ (0 < i → Go.Op.bytesLess (rdOf ByteArray.empty g (((i - 1 : Nat)) : Int)).toList (rdOf ByteArray.empty g (i : Int)).toList = true)))
    (HB : Aside0 (Below w1.heap.size w1 wr))
    (Q' : Exit → Act → World → Prop) (K' J : Act → World → Prop) (hK : ∀ (a' : Act) (w' : World), Met J a' w' → K' a' w')
    (hJ : ∀ (a' : Act) (w' : World), (∃ u10 u19 u20 u21 u22 u23 u24 u100 u101 u102 u103 u104 u105 u106 u107 u108 u109 u110 u111 u112 u113 u114 u115 u116 u117 u118 u119 u120 u121 u122 u123 u124 u125 u126 u127 u128 u129 u130 u131 u132 u133 u134 u135 u136 u137 u138 u139 u140 u141 u142 u143 u144 u145 u146 u147 u148 u149 u150 u151 u152 u153 u154 u155 : Value, (Aside0 (Below w1.heap.size w1 w')) ∧ a' = ⟨#[.string row, e1, e2, e3, e4, e5, e6, e7, e8, e9, u10, .slice A1 g.length c1, .bool true, e13, e14, .bool hb1, e16, e17, e18, u19, u20, u21, u22, u23, u24, e25, e26, e27, e28, e29, e30, e31, e32, e33, e34, e35, e36, e37, e38, e39, e40, e41, e42, e43, e44, e45, e46, e47, e48, e49, e50, e51, e52, e53, e54, e55, e56, e57, e58, e59, e60, e61, e62, e63, e64, e65, e66, e67, e68, e69, e70, e71, e72, e73, e74, e75, e76, e77, e78, e79, e80, e81, e82, e83, e84, e85, e86, e87, e88, e89, e90, e91, e92, e93, e94, e95, e96, e97, e98, .bool true, u100, u101, u102, u103, u104, u105, u106, u107, u108, u109, u110, u111, u112, u113, u114, u115, u116, u117, u118, u119, u120, u121, u122, u123, u124, u125, u126, u127, u128, u129, u130, u131, u132, u133, u134, u135, u136, u137, u138, u139, u140, u141, u142, u143, u144, u145, u146, u147, u148, u149, u150, u151, u152, u153, u154, u155, e156, e157, e158, e159, e160, e161, e162, e163, e164, e165, e166, e167, e168, e169, e170, e171, e172, e173, e174, e175, e176, e177, e178, e179, e180, e181, e182, e183, e184, e185, e186, e187, e188, e189, e190, e191, e192, e193, e194, e195, e196, e197, e198, e199, e200, e201, e202, e203, e204, e205, e206, e207, e208, e209, e210, e211, e212, e213, e214, e215, e216, e217, e218, e219, e220, e221, e222, e223, e224, e225, e226, e227, e228, e229, e230, e231, e232, e233, e234, e235, e236, e237, e238, e239, e240, e241, e242, e243, e244, e245, e246, e247, e248, e249, e250, e251, e252, e253, e254, e255, e256, e257, e258, e259, e260, e261, e262, e263, e264, e265, e266, e267, e268, e269, e270, e271, e272, e273, e274, e275, e276, e277, e278, e279, e280, e281, e282, e283, e284, e285, e286, e287, e288, e289, e290, e291, e292, e293, e294, e295, e296, e297, e298, e299, e300, e301, e302, e303, e304, e305, e306, e307, e308, e309, e310, e311, e312, e313, e314, e315, e316, e317, e318, e319, e320, e321, e322, e323, e324, e325, e326, e327, e328, e329, e330, e331, e332, e333, e334, e335, e336, e337, e338, e339, e340, e341, e342, e343, e344, e345, e346, e347, e348, e349, e350, e351, e352, e353, e354, e355, e356, e357, e358], []⟩) → J a' w') :
    Code.wp Tryd.prog (condOf Tryd.f6 99) (Exit.then K' Q') ⟨#[.string row, e1, e2, e3, e4, e5, e6, e7, e8, e9, e10, .slice A1 g.length c1, .bool true, e13, e14, .bool hb1, e16, e17, e18, e19, e20, e21, e22, e23, e24, e25, e26, e27, e28, e29, e30, e31, e32, e33, e34, e35, e36, e37, e38, e39, e40, e41, e42, e43, e44, e45, e46, e47, e48, e49, e50, e51, e52, e53, e54, e55, e56, e57, e58, e59, e60, e61, e62, e63, e64, e65, e66, e67, e68, e69, e70, e71, e72, e73, e74, e75, e76, e77, e78, e79, e80, e81, e82, e83, e84, e85, e86, e87, e88, e89, e90, e91, e92, e93, e94, e95, e96, e97, e98, .bool true, e100, e101, e102, e103, e104, e105, e106, e107, e108, e109, e110, e111, e112, e113, e114, e115, e116, e117, e118, e119, e120, e121, e122, e123, e124, e125, e126, e127, e128, e129, e130, e131, e132, e133, e134, e135, e136, e137, e138, e139, e140, e141, e142, e143, e144, e145, e146, e147, e148, e149, e150, e151, e152, e153, e154, e155, e156, e157, e158, e159, e160, e161, e162, e163, e164, e165, e166, e167, e168, e169, e170, e171, e172, e173, e174, e175, e176, e177, e178, e179, e180, e181, e182, e183, e184, e185, e186, e187, e188, e189, e190, e191, e192, e193, e194, e195, e196, e197, e198, e199, e200, e201, e202, e203, e204, e205, e206, e207, e208, e209, e210, e211, e212, e213, e214, e215, e216, e217, e218, e219, e220, e221, e222, e223, e224, e225, e226, e227, e228, e229, e230, e231, e232, e233, e234, e235, e236, e237, e238, e239, e240, e241, e242, e243, e244, e245, e246, e247, e248, e249, e250, e251, e252, e253, e254, e255, e256, e257, e258, e259, e260, e261, e262, e263, e264, e265, e266, e267, e268, e269, e270, e271, e272, e273, e274, e275, e276, e277, e278, e279, e280, e281, e282, e283, e284, e285, e286, e287, e288, e289, e290, e291, e292, e293, e294, e295, e296, e297, e298, e299, e300, e301, e302, e303, e304, e305, e306, e307, e308, e309, e310, e311, e312, e313, e314, e315, e316, e317, e318, e319, e320, e321, e322, e323, e324, e325, e326, e327, e328, e329, e330, e331, e332, e333, e334, e335, e336, e337, e338, e339, e340, e341, e342, e343, e344, e345, e346, e347, e348, e349, e350, e351, e352, e353, e354, e355, e356, e357, e358], []⟩ wr := by
  conv => arg 2; whnf
  have HJ := Aside0.mk hJ
  have HKK := Aside0.mk hK
  clear hJ hK
  obtain ⟨hh, st, hst, hin, hrow⟩ := HF1.out
  have HST := Aside0.mk hst
  have HIN := Aside0.mk hin
  have HROW := Aside0.mk hrow
  subst hh
  clear hst hin hrow HF1
  have hg2 := HG.out
  go_upto_region 11 with (go_at_call 22; with_reducible refine (HST.out _ (below_step HB1.out (by repeat (first | (with_reducible first | exact HB.out | apply below_alloc | apply pw_below_drewN | apply below_drew1) | exact HB.out)))).mono ?_; rintro e w5 ⟨rfl, hb⟩; have HBn := Aside0.mk (below_step (by repeat (first | (with_reducible first | exact HB.out | apply below_alloc | apply pw_below_drewN | apply below_drew1) | exact HB.out)) hb); clear hb HB; have HB := HBn; clear HBn; try dsimp only)
  go_cut [122] from 105 to 121 (fun s122 wx => s122 = .bool false ∧ Aside0 (Below w1.heap.size w1 wx))
  case first =>
    have HMT := Aside0.mk (fun (hm : row ∈ g) W (h1 : Below w1.heap.size w1 W) => RLawH.mText_in A1 c1 g row hm HG.out W (Kd.C_below HC.out h1) HLC.out)
    cases st with
    | false =>
      go_wp2_with fail
      go_meet
      case rel => exact ⟨rfl, ⟨(by repeat (first | (with_reducible first | exact HB.out | apply below_alloc | apply pw_below_drewN | apply below_drew1) | exact HB.out))⟩⟩
    | true =>
      have HMT2 := Aside0.mk (fun W h1 => HMT.out (HIN.out rfl) W h1)
      go_wp2_with (go_at_call 23; with_reducible refine (HMT2.out _ (by repeat (first | (with_reducible first | exact HB.out | apply below_alloc | apply pw_below_drewN | apply below_drew1) | exact HB.out))).mono ?_; rintro e w' ⟨rfl, ⟨nd, rfl⟩⟩; try dsimp only)
      go_meet
      case rel => exact ⟨rfl, ⟨(by repeat (first | (with_reducible first | exact HB.out | apply below_alloc | apply pw_below_drewN | apply below_drew1) | exact HB.out))⟩⟩
  case rest =>
  clear HB HST HIN
  obtain ⟨rfl, HB⟩ := hcut
  go_wp2_with fail
  go_loopg [125] g.length (fun kq v125 w' => ∃ i : Nat, v125 = .int .i64 (i : Int) ∧ Aside0 (kq + i = g.length) ∧ Aside0 (Below w1.heap.size w1 w'))
  case atStart => exact ⟨0, rfl, ⟨rfl⟩, ⟨(by repeat (first | (with_reducible first | exact HB.out | apply below_alloc | apply pw_below_drewN | apply below_drew1) | exact HB.out))⟩⟩
  case round =>
    clear HB
    obtain ⟨i, rfl, HK, HB⟩ := hrel
    have hk := HK.out
    by_cases hi : i < g.length
    · obtain ⟨ht, hl⟩ := HROW.out i hi
      have HTK := Aside0.mk ht
      obtain ⟨ad, e, _⟩ := Kd.at_string HC.out (i : Int) (by omega) (by omega)
      cases e
      have HX := Aside0.mk (fun W (h1 : Below w1.heap.size w1 W) => (show W.cell? (ad.add i) = some (.string (rdOf ByteArray.empty g (i : Int))) from by
        obtain ⟨ad2, e2, hx⟩ := Kd.at_string (Kd.C_below HC.out h1) (i : Int) (by omega) (by omega)
        cases e2
        rw [Int.toNat_natCast] at hx
        exact hx))
      have hx := HX.out _ HB.out
      by_cases hp : 0 < i
      · have hl2 := hl hp
        have e1 : ((i - 1 : Nat) : Int) = (i : Int) - 1 := by omega
        rw [e1] at hl2
        have HY := Aside0.mk (fun W (h1 : Below w1.heap.size w1 W) => (show W.cell? (ad.add ((i : Int) - 1).toNat) = some (.string (rdOf ByteArray.empty g ((i : Int) - 1))) from by
          obtain ⟨ad2, e2, hx⟩ := Kd.at_string (Kd.C_below HC.out h1) ((i : Int) - 1) (by omega) (by omega)
          cases e2
          exact hx))
        have HY2 := HY
        have e9 : ((i : Int) - 1).toNat = i - 1 := by omega
        rw [e9] at HY2
        clear e9
        have hw := RLawH.sub_one i hp (Nat.le_of_lt (Nat.lt_of_lt_of_le hi hg2))
        have h0 : (0 : Int) ≤ (i : Int) - 1 := by omega
        have h1 : (i : Int) - 1 < (g.length : Int) := by omega
        generalize rdOf ByteArray.empty g (i : Int) = z at *
        generalize rdOf ByteArray.empty g ((i : Int) - 1) = y at *
        clear hl ht e1 HX
        go_wp2_with (go_at_call 24; with_reducible refine (HTK.out _ (below_step HB1.out (by repeat (first | (with_reducible first | exact HB.out | apply below_alloc | apply pw_below_drewN | apply below_drew1) | exact HB.out)))).mono ?_; rintro e w6 ⟨rfl, hb⟩; have HBn := Aside0.mk (below_step (by repeat (first | (with_reducible first | exact HB.out | apply below_alloc | apply pw_below_drewN | apply below_drew1) | exact HB.out)) hb); clear hb HB; have HB := HBn; clear HBn; try dsimp only; have hy := HY.out _ HB.out; have hy2 := HY2.out _ HB.out)
        go_roundg (g.length - (i + 1))
        case measure => omega
        case rel => exact ⟨i + 1, by first | rfl | simp, ⟨by omega⟩, ⟨(by repeat (first | (with_reducible first | exact HB.out | apply below_alloc | apply pw_below_drewN | apply below_drew1) | exact HB.out))⟩⟩
      · have hd : decide ((0 : Int) < (i : Int)) = false := by simp; omega
        generalize rdOf ByteArray.empty g (i : Int) = z at *
        clear hl ht HX
        go_wp2_with (go_at_call 24; with_reducible refine (HTK.out _ (below_step HB1.out (by repeat (first | (with_reducible first | exact HB.out | apply below_alloc | apply pw_below_drewN | apply below_drew1) | exact HB.out)))).mono ?_; rintro e w6 ⟨rfl, hb⟩; have HBn := Aside0.mk (below_step (by repeat (first | (with_reducible first | exact HB.out | apply below_alloc | apply pw_below_drewN | apply below_drew1) | exact HB.out)) hb); clear hb HB; have HB := HBn; clear HBn; try dsimp only)
        go_roundg (g.length - (i + 1))
        case measure => omega
        case rel => exact ⟨i + 1, by first | rfl | simp, ⟨by omega⟩, ⟨(by repeat (first | (with_reducible first | exact HB.out | apply below_alloc | apply pw_below_drewN | apply below_drew1) | exact HB.out))⟩⟩
    · have hd : decide ((i : Int) < (g.length : Int)) = false := by simp; omega
      go_wp2_with fail
      have hJ := HJ.out
      refine HKK.out _ _ ?_
      go_meet
      case rel => exact ⟨(by repeat (first | (with_reducible first | exact HB.out | apply below_alloc | apply pw_below_drewN | apply below_drew1) | exact HB.out))⟩
end Go.Proofs.YtleacijhpkogpabDoor.RBig
/- The law on rows before (FnRowsBeforeOfAll), a part of its walk: the great test. -/
namespace Go.Proofs.YtleacijhpkogpabDoor.RBig
open Go.RowKit Go.Proofs.YtleacijhpkogpabDoorW.PrintWords Go.Proofs.YtleacijhpkogpabDoorW.PrintLast Go.Proofs.YtleacijhpkogpabDoorW.PrintMore Go.Proofs.YtleacijhpkogpabDoor.Part
set_option linter.unusedVariables false
set_option linter.unusedSimpArgs false

set_option maxHeartbeats 8000000 in
set_option maxRecDepth 1000000 in
theorem partB_no (first : ByteArray) (k most sum x5 x6 : Int) (b2 b5 : Bool) (w1 : World) (e0 e1 e2 e3 e5 e6 e7 e8 e9 e10 e11 e12 e13 e14 e15 e16 e17 e18 e19 e20 e21 e22 e23 e24 e45 e46 e47 e48 e49 e50 e51 e52 e53 e54 e55 e56 e57 e58 e59 e60 e61 e62 e63 e64 e65 e66 e67 e68 e69 e70 e71 e72 e73 e74 e75 e76 e77 e78 e79 e80 e81 e82 e83 e84 e85 e86 e87 e88 e89 e90 e91 e92 e93 e94 e95 e96 e97 e98 e99 e100 e101 e102 e103 e104 e105 e106 e107 e108 e109 e110 e111 e112 e113 e114 e115 e116 e117 e118 e119 e120 e121 e122 e123 e124 e125 e126 e127 e128 e129 e130 e131 e132 e133 e134 e135 e136 e137 e138 e139 e140 e141 e142 e143 e144 e145 e146 e147 e148 e149 e150 e151 e152 e153 e154 e155 e156 e157 e158 e159 e160 e161 e162 e163 e164 e165 e166 e167 e168 e169 e170 e171 e172 e173 e174 e175 e176 e177 e178 e179 e180 e181 e182 e183 e184 e185 e186 e187 e188 e189 e190 e191 e192 e193 e194 e195 e196 e197 e198 e199 e200 e201 e202 e203 e204 e205 e206 e207 e208 e209 e210 e211 e212 e213 e214 e215 e216 e217 e218 e219 e220 e221 e222 e223 e224 e225 e226 e227 e228 e229 e230 e231 e232 e233 e234 e235 e236 e237 e238 e239 e240 e241 e242 e243 e244 e245 e246 e247 e248 e249 e250 e251 e252 e253 e254 e255 e256 e257 e258 e259 e260 e261 e262 e263 e264 e265 e266 e267 e268 e269 e270 e271 e272 e273 e274 e275 e276 e277 e278 e279 e280 e281 e282 e283 e284 e285 e286 e287 e288 e289 e290 e291 e292 e293 e294 e295 e296 e297 e298 e299 e300 e301 e302 e303 e304 e305 e306 e307 e308 e309 e310 e311 e312 e313 e314 e315 e316 e317 e318 e319 e320 e321 e322 e323 e324 e325 e326 e327 e328 e329 e330 e331 e332 e333 e334 e335 e336 e337 e338 e339 e340 e341 e342 e343 e344 e345 e346 e347 e348 e349 e350 e351 e352 e353 e354 e355 e356 e357 e358 : Value) (wr : World)
    (HB : Aside0 (Below w1.heap.size w1 wr))
    (Q' : Exit → Act → World → Prop) (K' J : Act → World → Prop) (hK : ∀ (a' : Act) (w' : World), Met J a' w' → K' a' w')
    (hJ : ∀ (a' : Act) (w' : World), (∃ u208 u209 u210 u211 u212 u213 u214 u215 u216 u217 u218 u219 u220 u221 u222 u223 u224 u225 u226 u227 u228 u229 u230 u231 u232 u233 u234 u235 u236 u237 u238 u239 u240 u241 u242 u243 u244 u245 u246 u247 u248 u249 u250 u251 u252 u253 u254 u255 u256 u257 u258 u259 u260 u261 u262 u263 u264 u265 u266 u267 u268 u269 u270 u271 u272 u273 u274 : Value, (u274 = .bool false ∧ Aside0 (Below w1.heap.size w1 w')) ∧ a' = ⟨#[e0, e1, e2, e3, .int .i64 k, e5, e6, e7, e8, e9, e10, e11, e12, e13, e14, e15, e16, e17, e18, e19, e20, e21, e22, e23, e24, .int .i64 most, .bool b2, .int .i64 most, .bool b2, .string first, .bool b2, .string first, .bool b2, .int .i64 sum, .bool b2, .int .i64 sum, .bool b2, .int .i64 x5, .bool b5, .int .i64 x5, .bool b5, .int .i64 x6, .bool false, .int .i64 x6, .bool false, e45, e46, e47, e48, e49, e50, e51, e52, e53, e54, e55, e56, e57, e58, e59, e60, e61, e62, e63, e64, e65, e66, e67, e68, e69, e70, e71, e72, e73, e74, e75, e76, e77, e78, e79, e80, e81, e82, e83, e84, e85, e86, e87, e88, e89, e90, e91, e92, e93, e94, e95, e96, e97, e98, e99, e100, e101, e102, e103, e104, e105, e106, e107, e108, e109, e110, e111, e112, e113, e114, e115, e116, e117, e118, e119, e120, e121, e122, e123, e124, e125, e126, e127, e128, e129, e130, e131, e132, e133, e134, e135, e136, e137, e138, e139, e140, e141, e142, e143, e144, e145, e146, e147, e148, e149, e150, e151, e152, e153, e154, e155, e156, e157, e158, e159, e160, e161, e162, e163, e164, e165, e166, e167, e168, e169, e170, e171, e172, e173, e174, e175, e176, e177, e178, e179, e180, e181, e182, e183, e184, e185, e186, e187, e188, e189, e190, e191, e192, e193, e194, e195, e196, e197, e198, e199, e200, e201, e202, e203, e204, e205, e206, e207, u208, u209, u210, u211, u212, u213, u214, u215, u216, u217, u218, u219, u220, u221, u222, u223, u224, u225, u226, u227, u228, u229, u230, u231, u232, u233, u234, u235, u236, u237, u238, u239, u240, u241, u242, u243, u244, u245, u246, u247, u248, u249, u250, u251, u252, u253, u254, u255, u256, u257, u258, u259, u260, u261, u262, u263, u264, u265, u266, u267, u268, u269, u270, u271, u272, u273, u274, e275, e276, e277, e278, e279, e280, e281, e282, e283, e284, e285, e286, e287, e288, e289, e290, e291, e292, e293, e294, e295, e296, e297, e298, e299, e300, e301, e302, e303, e304, e305, e306, e307, e308, e309, e310, e311, e312, e313, e314, e315, e316, e317, e318, e319, e320, e321, e322, e323, e324, e325, e326, e327, e328, e329, e330, e331, e332, e333, e334, e335, e336, e337, e338, e339, e340, e341, e342, e343, e344, e345, e346, e347, e348, e349, e350, e351, e352, e353, e354, e355, e356, e357, e358], []⟩) → J a' w') :
    Code.wp Tryd.prog (regOf Tryd.f6 30) (Exit.then K' Q') ⟨#[e0, e1, e2, e3, .int .i64 k, e5, e6, e7, e8, e9, e10, e11, e12, e13, e14, e15, e16, e17, e18, e19, e20, e21, e22, e23, e24, .int .i64 most, .bool b2, .int .i64 most, .bool b2, .string first, .bool b2, .string first, .bool b2, .int .i64 sum, .bool b2, .int .i64 sum, .bool b2, .int .i64 x5, .bool b5, .int .i64 x5, .bool b5, .int .i64 x6, .bool false, .int .i64 x6, .bool false, e45, e46, e47, e48, e49, e50, e51, e52, e53, e54, e55, e56, e57, e58, e59, e60, e61, e62, e63, e64, e65, e66, e67, e68, e69, e70, e71, e72, e73, e74, e75, e76, e77, e78, e79, e80, e81, e82, e83, e84, e85, e86, e87, e88, e89, e90, e91, e92, e93, e94, e95, e96, e97, e98, e99, e100, e101, e102, e103, e104, e105, e106, e107, e108, e109, e110, e111, e112, e113, e114, e115, e116, e117, e118, e119, e120, e121, e122, e123, e124, e125, e126, e127, e128, e129, e130, e131, e132, e133, e134, e135, e136, e137, e138, e139, e140, e141, e142, e143, e144, e145, e146, e147, e148, e149, e150, e151, e152, e153, e154, e155, e156, e157, e158, e159, e160, e161, e162, e163, e164, e165, e166, e167, e168, e169, e170, e171, e172, e173, e174, e175, e176, e177, e178, e179, e180, e181, e182, e183, e184, e185, e186, e187, e188, e189, e190, e191, e192, e193, e194, e195, e196, e197, e198, e199, e200, e201, e202, e203, e204, e205, e206, e207, e208, e209, e210, e211, e212, e213, e214, e215, e216, e217, e218, e219, e220, e221, e222, e223, e224, e225, e226, e227, e228, e229, e230, e231, e232, e233, e234, e235, e236, e237, e238, e239, e240, e241, e242, e243, e244, e245, e246, e247, e248, e249, e250, e251, e252, e253, e254, e255, e256, e257, e258, e259, e260, e261, e262, e263, e264, e265, e266, e267, e268, e269, e270, e271, e272, e273, e274, e275, e276, e277, e278, e279, e280, e281, e282, e283, e284, e285, e286, e287, e288, e289, e290, e291, e292, e293, e294, e295, e296, e297, e298, e299, e300, e301, e302, e303, e304, e305, e306, e307, e308, e309, e310, e311, e312, e313, e314, e315, e316, e317, e318, e319, e320, e321, e322, e323, e324, e325, e326, e327, e328, e329, e330, e331, e332, e333, e334, e335, e336, e337, e338, e339, e340, e341, e342, e343, e344, e345, e346, e347, e348, e349, e350, e351, e352, e353, e354, e355, e356, e357, e358], []⟩ wr := by
  conv => arg 2; whnf
  have HJ := Aside0.mk hJ
  have HKK := Aside0.mk hK
  clear hJ hK
  simp only [List.append]
  go_wp2_with fail
  have hJ := HJ.out
  refine HKK.out _ _ ?_
  go_meet
  case rel => exact ⟨rfl, ⟨(by repeat (first | (with_reducible first | exact HB.out | apply below_alloc | apply pw_below_drewN | apply below_drew1) | exact HB.out))⟩⟩
set_option maxHeartbeats 8000000 in
set_option maxRecDepth 1000000 in
theorem partB_yes (first : ByteArray) (k most sum x5 x6 : Int) (b2 b5 : Bool) (w1 : World) (e0 e1 e2 e3 e5 e6 e7 e8 e9 e10 e11 e12 e13 e14 e15 e16 e17 e18 e19 e20 e21 e22 e23 e24 e45 e46 e47 e48 e49 e50 e51 e52 e53 e54 e55 e56 e57 e58 e59 e60 e61 e62 e63 e64 e65 e66 e67 e68 e69 e70 e71 e72 e73 e74 e75 e76 e77 e78 e79 e80 e81 e82 e83 e84 e85 e86 e87 e88 e89 e90 e91 e92 e93 e94 e95 e96 e97 e98 e99 e100 e101 e102 e103 e104 e105 e106 e107 e108 e109 e110 e111 e112 e113 e114 e115 e116 e117 e118 e119 e120 e121 e122 e123 e124 e125 e126 e127 e128 e129 e130 e131 e132 e133 e134 e135 e136 e137 e138 e139 e140 e141 e142 e143 e144 e145 e146 e147 e148 e149 e150 e151 e152 e153 e154 e155 e156 e157 e158 e159 e160 e161 e162 e163 e164 e165 e166 e167 e168 e169 e170 e171 e172 e173 e174 e175 e176 e177 e178 e179 e180 e181 e182 e183 e184 e185 e186 e187 e188 e189 e190 e191 e192 e193 e194 e195 e196 e197 e198 e199 e200 e201 e202 e203 e204 e205 e206 e207 e208 e209 e210 e211 e212 e213 e214 e215 e216 e217 e218 e219 e220 e221 e222 e223 e224 e225 e226 e227 e228 e229 e230 e231 e232 e233 e234 e235 e236 e237 e238 e239 e240 e241 e242 e243 e244 e245 e246 e247 e248 e249 e250 e251 e252 e253 e254 e255 e256 e257 e258 e259 e260 e261 e262 e263 e264 e265 e266 e267 e268 e269 e270 e271 e272 e273 e274 e275 e276 e277 e278 e279 e280 e281 e282 e283 e284 e285 e286 e287 e288 e289 e290 e291 e292 e293 e294 e295 e296 e297 e298 e299 e300 e301 e302 e303 e304 e305 e306 e307 e308 e309 e310 e311 e312 e313 e314 e315 e316 e317 e318 e319 e320 e321 e322 e323 e324 e325 e326 e327 e328 e329 e330 e331 e332 e333 e334 e335 e336 e337 e338 e339 e340 e341 e342 e343 e344 e345 e346 e347 e348 e349 e350 e351 e352 e353 e354 e355 e356 e357 e358 : Value) (wr : World)
    (HB : Aside0 (Below w1.heap.size w1 wr))
    (Q' : Exit → Act → World → Prop) (K' J : Act → World → Prop) (hK : ∀ (a' : Act) (w' : World), Met J a' w' → K' a' w')
    (hJ : ∀ (a' : Act) (w' : World), (∃ u208 u209 u210 u211 u212 u213 u214 u215 u216 u217 u218 u219 u220 u221 u222 u223 u224 u225 u226 u227 u228 u229 u230 u231 u232 u233 u234 u235 u236 u237 u238 u239 u240 u241 u242 u243 u244 u245 u246 u247 u248 u249 u250 u251 u252 u253 u254 u255 u256 u257 u258 u259 u260 u261 u262 u263 u264 u265 u266 u267 u268 u269 u270 u271 u272 u273 u274 : Value, (u274 = .bool false ∧ Aside0 (Below w1.heap.size w1 w')) ∧ a' = ⟨#[e0, e1, e2, e3, .int .i64 k, e5, e6, e7, e8, e9, e10, e11, e12, e13, e14, e15, e16, e17, e18, e19, e20, e21, e22, e23, e24, .int .i64 most, .bool b2, .int .i64 most, .bool b2, .string first, .bool b2, .string first, .bool b2, .int .i64 sum, .bool b2, .int .i64 sum, .bool b2, .int .i64 x5, .bool b5, .int .i64 x5, .bool b5, .int .i64 (wrap64 (k + 1)), .bool true, .int .i64 (wrap64 (k + 1)), .bool true, e45, e46, e47, e48, e49, e50, e51, e52, e53, e54, e55, e56, e57, e58, e59, e60, e61, e62, e63, e64, e65, e66, e67, e68, e69, e70, e71, e72, e73, e74, e75, e76, e77, e78, e79, e80, e81, e82, e83, e84, e85, e86, e87, e88, e89, e90, e91, e92, e93, e94, e95, e96, e97, e98, e99, e100, e101, e102, e103, e104, e105, e106, e107, e108, e109, e110, e111, e112, e113, e114, e115, e116, e117, e118, e119, e120, e121, e122, e123, e124, e125, e126, e127, e128, e129, e130, e131, e132, e133, e134, e135, e136, e137, e138, e139, e140, e141, e142, e143, e144, e145, e146, e147, e148, e149, e150, e151, e152, e153, e154, e155, e156, e157, e158, e159, e160, e161, e162, e163, e164, e165, e166, e167, e168, e169, e170, e171, e172, e173, e174, e175, e176, e177, e178, e179, e180, e181, e182, e183, e184, e185, e186, e187, e188, e189, e190, e191, e192, e193, e194, e195, e196, e197, e198, e199, e200, e201, e202, e203, e204, e205, e206, e207, u208, u209, u210, u211, u212, u213, u214, u215, u216, u217, u218, u219, u220, u221, u222, u223, u224, u225, u226, u227, u228, u229, u230, u231, u232, u233, u234, u235, u236, u237, u238, u239, u240, u241, u242, u243, u244, u245, u246, u247, u248, u249, u250, u251, u252, u253, u254, u255, u256, u257, u258, u259, u260, u261, u262, u263, u264, u265, u266, u267, u268, u269, u270, u271, u272, u273, u274, e275, e276, e277, e278, e279, e280, e281, e282, e283, e284, e285, e286, e287, e288, e289, e290, e291, e292, e293, e294, e295, e296, e297, e298, e299, e300, e301, e302, e303, e304, e305, e306, e307, e308, e309, e310, e311, e312, e313, e314, e315, e316, e317, e318, e319, e320, e321, e322, e323, e324, e325, e326, e327, e328, e329, e330, e331, e332, e333, e334, e335, e336, e337, e338, e339, e340, e341, e342, e343, e344, e345, e346, e347, e348, e349, e350, e351, e352, e353, e354, e355, e356, e357, e358], []⟩) → J a' w') :
    Code.wp Tryd.prog (regOf Tryd.f6 30) (Exit.then K' Q') ⟨#[e0, e1, e2, e3, .int .i64 k, e5, e6, e7, e8, e9, e10, e11, e12, e13, e14, e15, e16, e17, e18, e19, e20, e21, e22, e23, e24, .int .i64 most, .bool b2, .int .i64 most, .bool b2, .string first, .bool b2, .string first, .bool b2, .int .i64 sum, .bool b2, .int .i64 sum, .bool b2, .int .i64 x5, .bool b5, .int .i64 x5, .bool b5, .int .i64 (wrap64 (k + 1)), .bool true, .int .i64 (wrap64 (k + 1)), .bool true, e45, e46, e47, e48, e49, e50, e51, e52, e53, e54, e55, e56, e57, e58, e59, e60, e61, e62, e63, e64, e65, e66, e67, e68, e69, e70, e71, e72, e73, e74, e75, e76, e77, e78, e79, e80, e81, e82, e83, e84, e85, e86, e87, e88, e89, e90, e91, e92, e93, e94, e95, e96, e97, e98, e99, e100, e101, e102, e103, e104, e105, e106, e107, e108, e109, e110, e111, e112, e113, e114, e115, e116, e117, e118, e119, e120, e121, e122, e123, e124, e125, e126, e127, e128, e129, e130, e131, e132, e133, e134, e135, e136, e137, e138, e139, e140, e141, e142, e143, e144, e145, e146, e147, e148, e149, e150, e151, e152, e153, e154, e155, e156, e157, e158, e159, e160, e161, e162, e163, e164, e165, e166, e167, e168, e169, e170, e171, e172, e173, e174, e175, e176, e177, e178, e179, e180, e181, e182, e183, e184, e185, e186, e187, e188, e189, e190, e191, e192, e193, e194, e195, e196, e197, e198, e199, e200, e201, e202, e203, e204, e205, e206, e207, e208, e209, e210, e211, e212, e213, e214, e215, e216, e217, e218, e219, e220, e221, e222, e223, e224, e225, e226, e227, e228, e229, e230, e231, e232, e233, e234, e235, e236, e237, e238, e239, e240, e241, e242, e243, e244, e245, e246, e247, e248, e249, e250, e251, e252, e253, e254, e255, e256, e257, e258, e259, e260, e261, e262, e263, e264, e265, e266, e267, e268, e269, e270, e271, e272, e273, e274, e275, e276, e277, e278, e279, e280, e281, e282, e283, e284, e285, e286, e287, e288, e289, e290, e291, e292, e293, e294, e295, e296, e297, e298, e299, e300, e301, e302, e303, e304, e305, e306, e307, e308, e309, e310, e311, e312, e313, e314, e315, e316, e317, e318, e319, e320, e321, e322, e323, e324, e325, e326, e327, e328, e329, e330, e331, e332, e333, e334, e335, e336, e337, e338, e339, e340, e341, e342, e343, e344, e345, e346, e347, e348, e349, e350, e351, e352, e353, e354, e355, e356, e357, e358], []⟩ wr := by
  conv => arg 2; whnf
  have HJ := Aside0.mk hJ
  have HKK := Aside0.mk hK
  clear hJ hK
  simp only [List.append]
  go_wp2_with fail
  have hJ := HJ.out
  refine HKK.out _ _ ?_
  go_meet
  case rel => exact ⟨rfl, ⟨(by repeat (first | (with_reducible first | exact HB.out | apply below_alloc | apply pw_below_drewN | apply below_drew1) | exact HB.out))⟩⟩
end Go.Proofs.YtleacijhpkogpabDoor.RBig
/- The law on rows before (FnRowsBeforeOfAll), a part of its walk: what is said of the counts. -/
namespace Go.Proofs.YtleacijhpkogpabDoor.RBig
open Go.RowKit Go.Proofs.YtleacijhpkogpabDoorW.PrintWords Go.Proofs.YtleacijhpkogpabDoorW.PrintLast Go.Proofs.YtleacijhpkogpabDoorW.PrintMore Go.Proofs.YtleacijhpkogpabDoor.Part
set_option linter.unusedVariables false
set_option linter.unusedSimpArgs false

set_option maxHeartbeats 8000000 in
set_option maxRecDepth 1000000 in
theorem partD_no (first : ByteArray) (n most sum : Int) (w w1 : World) (e0 e2 e3 e4 e5 e6 e7 e8 e9 e10 e11 e12 e13 e14 e15 e16 e17 e18 e19 e20 e21 e22 e23 e24 e27 e28 e30 e31 e32 e34 e35 e36 e37 e38 e39 e40 e41 e42 e43 e44 e45 e46 e47 e48 e49 e50 e51 e52 e53 e54 e55 e56 e57 e58 e59 e60 e61 e62 e63 e64 e65 e66 e67 e68 e69 e70 e71 e72 e73 e74 e75 e76 e77 e78 e79 e80 e81 e82 e83 e84 e85 e86 e87 e88 e89 e90 e91 e92 e93 e94 e95 e96 e97 e98 e99 e100 e101 e102 e103 e104 e105 e106 e107 e108 e109 e110 e111 e112 e113 e114 e115 e116 e117 e118 e119 e120 e121 e122 e123 e124 e125 e126 e127 e128 e129 e130 e131 e132 e133 e134 e135 e136 e137 e138 e139 e140 e141 e142 e143 e144 e145 e146 e147 e148 e149 e150 e151 e152 e153 e154 e155 e156 e157 e158 e159 e160 e161 e162 e163 e164 e165 e166 e167 e168 e169 e170 e171 e172 e173 e174 e175 e176 e177 e178 e179 e180 e181 e182 e183 e184 e185 e186 e187 e188 e189 e190 e191 e192 e193 e194 e195 e196 e197 e198 e199 e200 e201 e202 e203 e204 e205 e206 e207 e208 e209 e210 e211 e212 e213 e214 e215 e216 e217 e218 e219 e220 e221 e222 e223 e224 e225 e226 e227 e228 e229 e230 e231 e232 e233 e234 e235 e236 e237 e238 e239 e240 e241 e242 e243 e244 e245 e246 e247 e248 e249 e250 e251 e252 e253 e254 e255 e256 e257 e258 e259 e260 e261 e262 e263 e264 e265 e266 e267 e268 e269 e270 e271 e272 e273 e274 e276 e277 e278 e279 e280 e281 e282 e283 e284 e285 e286 e287 e288 e289 e290 e291 e292 e293 e294 e295 e296 e297 e298 e299 e300 e301 e302 e303 e304 e305 e306 e307 e308 e309 e310 e311 e312 e313 e314 e315 e316 e317 e318 e319 e320 e321 e322 e323 e324 e325 e326 e327 e328 e329 e330 e331 e332 e333 e334 e335 e336 e337 e338 e339 e340 e341 e342 e343 e344 e345 e346 e347 e348 e349 e350 e351 e352 e353 e354 e355 e356 e357 e358 : Value) (wr : World)
    (HB : Aside0 (Below w1.heap.size w1 wr))
    (Q' : Exit → Act → World → Prop) (K' J : Act → World → Prop) (hK : ∀ (a' : Act) (w' : World), Met J a' w' → K' a' w')
    (hJ : ∀ (a' : Act) (w' : World), (∃ u10 u45 u46 u47 u48 u49 u50 u51 u276 u277 u278 u279 u280 u281 u282 u283 u284 u285 u286 u287 u288 u289 u290 u291 u292 u293 u294 u295 u296 u297 u298 u299 u300 u301 u302 u303 u304 u305 u306 u307 u308 u309 u310 u311 u312 u313 u314 u315 u316 u317 u318 u319 u320 u321 u322 u323 u324 u325 u326 u327 u328 u329 u330 u331 u332 u333 u334 u335 u336 u337 u338 u339 u340 u341 u342 u343 u344 u345 u346 u347 u348 u349 u350 u351 u352 u353 u354 u355 u356 u357 u358 : Value, (Aside0 (Below w1.heap.size w1 w')) ∧ a' = ⟨#[e0, .int .i64 n, e2, e3, e4, e5, e6, e7, e8, e9, u10, e11, e12, e13, e14, e15, e16, e17, e18, e19, e20, e21, e22, e23, e24, .int .i64 most, .bool false, e27, e28, .string first, e30, e31, e32, .int .i64 sum, e34, e35, e36, e37, e38, e39, e40, e41, e42, e43, e44, u45, u46, u47, u48, u49, u50, u51, e52, e53, e54, e55, e56, e57, e58, e59, e60, e61, e62, e63, e64, e65, e66, e67, e68, e69, e70, e71, e72, e73, e74, e75, e76, e77, e78, e79, e80, e81, e82, e83, e84, e85, e86, e87, e88, e89, e90, e91, e92, e93, e94, e95, e96, e97, e98, e99, e100, e101, e102, e103, e104, e105, e106, e107, e108, e109, e110, e111, e112, e113, e114, e115, e116, e117, e118, e119, e120, e121, e122, e123, e124, e125, e126, e127, e128, e129, e130, e131, e132, e133, e134, e135, e136, e137, e138, e139, e140, e141, e142, e143, e144, e145, e146, e147, e148, e149, e150, e151, e152, e153, e154, e155, e156, e157, e158, e159, e160, e161, e162, e163, e164, e165, e166, e167, e168, e169, e170, e171, e172, e173, e174, e175, e176, e177, e178, e179, e180, e181, e182, e183, e184, e185, e186, e187, e188, e189, e190, e191, e192, e193, e194, e195, e196, e197, e198, e199, e200, e201, e202, e203, e204, e205, e206, e207, e208, e209, e210, e211, e212, e213, e214, e215, e216, e217, e218, e219, e220, e221, e222, e223, e224, e225, e226, e227, e228, e229, e230, e231, e232, e233, e234, e235, e236, e237, e238, e239, e240, e241, e242, e243, e244, e245, e246, e247, e248, e249, e250, e251, e252, e253, e254, e255, e256, e257, e258, e259, e260, e261, e262, e263, e264, e265, e266, e267, e268, e269, e270, e271, e272, e273, e274, .bool false, u276, u277, u278, u279, u280, u281, u282, u283, u284, u285, u286, u287, u288, u289, u290, u291, u292, u293, u294, u295, u296, u297, u298, u299, u300, u301, u302, u303, u304, u305, u306, u307, u308, u309, u310, u311, u312, u313, u314, u315, u316, u317, u318, u319, u320, u321, u322, u323, u324, u325, u326, u327, u328, u329, u330, u331, u332, u333, u334, u335, u336, u337, u338, u339, u340, u341, u342, u343, u344, u345, u346, u347, u348, u349, u350, u351, u352, u353, u354, u355, u356, u357, u358], []⟩) → J a' w') :
    Code.wp Tryd.prog (condOf Tryd.f6 275) (Exit.then K' Q') ⟨#[e0, .int .i64 n, e2, e3, e4, e5, e6, e7, e8, e9, e10, e11, e12, e13, e14, e15, e16, e17, e18, e19, e20, e21, e22, e23, e24, .int .i64 most, .bool false, e27, e28, .string first, e30, e31, e32, .int .i64 sum, e34, e35, e36, e37, e38, e39, e40, e41, e42, e43, e44, e45, e46, e47, e48, e49, e50, e51, e52, e53, e54, e55, e56, e57, e58, e59, e60, e61, e62, e63, e64, e65, e66, e67, e68, e69, e70, e71, e72, e73, e74, e75, e76, e77, e78, e79, e80, e81, e82, e83, e84, e85, e86, e87, e88, e89, e90, e91, e92, e93, e94, e95, e96, e97, e98, e99, e100, e101, e102, e103, e104, e105, e106, e107, e108, e109, e110, e111, e112, e113, e114, e115, e116, e117, e118, e119, e120, e121, e122, e123, e124, e125, e126, e127, e128, e129, e130, e131, e132, e133, e134, e135, e136, e137, e138, e139, e140, e141, e142, e143, e144, e145, e146, e147, e148, e149, e150, e151, e152, e153, e154, e155, e156, e157, e158, e159, e160, e161, e162, e163, e164, e165, e166, e167, e168, e169, e170, e171, e172, e173, e174, e175, e176, e177, e178, e179, e180, e181, e182, e183, e184, e185, e186, e187, e188, e189, e190, e191, e192, e193, e194, e195, e196, e197, e198, e199, e200, e201, e202, e203, e204, e205, e206, e207, e208, e209, e210, e211, e212, e213, e214, e215, e216, e217, e218, e219, e220, e221, e222, e223, e224, e225, e226, e227, e228, e229, e230, e231, e232, e233, e234, e235, e236, e237, e238, e239, e240, e241, e242, e243, e244, e245, e246, e247, e248, e249, e250, e251, e252, e253, e254, e255, e256, e257, e258, e259, e260, e261, e262, e263, e264, e265, e266, e267, e268, e269, e270, e271, e272, e273, e274, .bool false, e276, e277, e278, e279, e280, e281, e282, e283, e284, e285, e286, e287, e288, e289, e290, e291, e292, e293, e294, e295, e296, e297, e298, e299, e300, e301, e302, e303, e304, e305, e306, e307, e308, e309, e310, e311, e312, e313, e314, e315, e316, e317, e318, e319, e320, e321, e322, e323, e324, e325, e326, e327, e328, e329, e330, e331, e332, e333, e334, e335, e336, e337, e338, e339, e340, e341, e342, e343, e344, e345, e346, e347, e348, e349, e350, e351, e352, e353, e354, e355, e356, e357, e358], []⟩ wr := by
  conv => arg 2; whnf
  have HJ := Aside0.mk hJ
  have HKK := Aside0.mk hK
  clear hJ hK
  go_wp2_with fail
  have hJ := HJ.out
  refine HKK.out _ _ ?_
  go_meet
  case rel => exact HB
set_option maxHeartbeats 8000000 in
set_option maxRecDepth 1000000 in
theorem partC (N t q : Nat) (most : Int) (w1 : World) (e0 e2 e3 e4 e5 e6 e7 e8 e9 e10 e11 e12 e13 e14 e15 e16 e17 e18 e19 e20 e21 e22 e23 e24 e26 e27 e28 e29 e30 e31 e32 e33 e34 e35 e36 e37 e38 e39 e40 e41 e42 e43 e44 e45 e46 e47 e48 e52 e53 e54 e55 e56 e57 e58 e59 e60 e61 e62 e63 e64 e65 e66 e67 e68 e69 e70 e71 e72 e73 e74 e75 e76 e77 e78 e79 e80 e81 e82 e83 e84 e85 e86 e87 e88 e89 e90 e91 e92 e93 e94 e95 e96 e97 e98 e99 e100 e101 e102 e103 e104 e105 e106 e107 e108 e109 e110 e111 e112 e113 e114 e115 e116 e117 e118 e119 e120 e121 e122 e123 e124 e125 e126 e127 e128 e129 e130 e131 e132 e133 e134 e135 e136 e137 e138 e139 e140 e141 e142 e143 e144 e145 e146 e147 e148 e149 e150 e151 e152 e153 e154 e155 e156 e157 e158 e159 e160 e161 e162 e163 e164 e165 e166 e167 e168 e169 e170 e171 e172 e173 e174 e175 e176 e177 e178 e179 e180 e181 e182 e183 e184 e185 e186 e187 e188 e189 e190 e191 e192 e193 e194 e195 e196 e197 e198 e199 e200 e201 e202 e203 e204 e205 e206 e207 e208 e209 e210 e211 e212 e213 e214 e215 e216 e217 e218 e219 e220 e221 e222 e223 e224 e225 e226 e227 e228 e229 e230 e231 e232 e233 e234 e235 e236 e237 e238 e239 e240 e241 e242 e243 e244 e245 e246 e247 e248 e249 e250 e251 e252 e253 e254 e255 e256 e257 e258 e259 e260 e261 e262 e263 e264 e265 e266 e267 e268 e269 e270 e271 e272 e273 e274 e275 e276 e277 e278 e279 e280 e281 e282 e283 e284 e285 e286 e287 e288 e289 e290 e291 e292 e293 e294 e295 e296 e297 e298 e299 e300 e301 e302 e303 e304 e305 e306 e307 e308 e309 e310 e311 e312 e313 e314 e315 e316 e317 e318 e319 e320 e321 e322 e323 e324 e325 e326 e327 e328 e329 e330 e331 e332 e333 e334 e335 e336 e337 e338 e339 e340 e341 e342 e343 e344 e345 e346 e347 e348 e349 e350 e351 e352 e353 e354 e355 e356 e357 e358 : Value) (wr : World)
    (hN : N ≤ 12) (ht : t ≤ N) (q0 : t = 0 → q = N + 1) (q1 : most < (t : Int) → q = 0) (q2 : (t : Int) = most → 1 ≤ q) (hq4 : q ≤ 4096)
    (HB : Aside0 (Below w1.heap.size w1 wr))
    (Q' : Exit → Act → World → Prop) (K' J : Act → World → Prop) (hK : ∀ (a' : Act) (w' : World), Met J a' w' → K' a' w')
    (hJ : ∀ (a' : Act) (w' : World), (∃ u281 u282 u283 u284 u285 u286 u287 u288 u289 u290 u291 u292 u293 u294 u295 u296 u297 u298 u299 u300 u301 u302 u303 u304 u305 u306 u307 u308 u309 u310 u311 u312 u313 u314 u315 u316 u317 u318 u319 u320 u321 u322 u323 u324 u325 u326 u327 u328 u329 : Value, (u321 = .bool false ∧ Aside0 (Below w1.heap.size w1 w')) ∧ a' = ⟨#[e0, .int .i64 (N : Int), e2, e3, e4, e5, e6, e7, e8, e9, e10, e11, e12, e13, e14, e15, e16, e17, e18, e19, e20, e21, e22, e23, e24, .int .i64 most, e26, e27, e28, e29, e30, e31, e32, e33, e34, e35, e36, e37, e38, e39, e40, e41, e42, e43, e44, e45, e46, e47, e48, .int .i64 (t : Int), .int .i64 (q : Int), .bool true, e52, e53, e54, e55, e56, e57, e58, e59, e60, e61, e62, e63, e64, e65, e66, e67, e68, e69, e70, e71, e72, e73, e74, e75, e76, e77, e78, e79, e80, e81, e82, e83, e84, e85, e86, e87, e88, e89, e90, e91, e92, e93, e94, e95, e96, e97, e98, e99, e100, e101, e102, e103, e104, e105, e106, e107, e108, e109, e110, e111, e112, e113, e114, e115, e116, e117, e118, e119, e120, e121, e122, e123, e124, e125, e126, e127, e128, e129, e130, e131, e132, e133, e134, e135, e136, e137, e138, e139, e140, e141, e142, e143, e144, e145, e146, e147, e148, e149, e150, e151, e152, e153, e154, e155, e156, e157, e158, e159, e160, e161, e162, e163, e164, e165, e166, e167, e168, e169, e170, e171, e172, e173, e174, e175, e176, e177, e178, e179, e180, e181, e182, e183, e184, e185, e186, e187, e188, e189, e190, e191, e192, e193, e194, e195, e196, e197, e198, e199, e200, e201, e202, e203, e204, e205, e206, e207, e208, e209, e210, e211, e212, e213, e214, e215, e216, e217, e218, e219, e220, e221, e222, e223, e224, e225, e226, e227, e228, e229, e230, e231, e232, e233, e234, e235, e236, e237, e238, e239, e240, e241, e242, e243, e244, e245, e246, e247, e248, e249, e250, e251, e252, e253, e254, e255, e256, e257, e258, e259, e260, e261, e262, e263, e264, e265, e266, e267, e268, e269, e270, e271, e272, e273, e274, e275, e276, e277, e278, e279, e280, u281, u282, u283, u284, u285, u286, u287, u288, u289, u290, u291, u292, u293, u294, u295, u296, u297, u298, u299, u300, u301, u302, u303, u304, u305, u306, u307, u308, u309, u310, u311, u312, u313, u314, u315, u316, u317, u318, u319, u320, u321, u322, u323, u324, u325, u326, u327, u328, u329, e330, e331, e332, e333, e334, e335, e336, e337, e338, e339, e340, e341, e342, e343, e344, e345, e346, e347, e348, e349, e350, e351, e352, e353, e354, e355, e356, e357, e358], []⟩) → J a' w') :
    Code.wp Tryd.prog (regOf Tryd.f6 39) (Exit.then K' Q') ⟨#[e0, .int .i64 (N : Int), e2, e3, e4, e5, e6, e7, e8, e9, e10, e11, e12, e13, e14, e15, e16, e17, e18, e19, e20, e21, e22, e23, e24, .int .i64 most, e26, e27, e28, e29, e30, e31, e32, e33, e34, e35, e36, e37, e38, e39, e40, e41, e42, e43, e44, e45, e46, e47, e48, .int .i64 (t : Int), .int .i64 (q : Int), .bool true, e52, e53, e54, e55, e56, e57, e58, e59, e60, e61, e62, e63, e64, e65, e66, e67, e68, e69, e70, e71, e72, e73, e74, e75, e76, e77, e78, e79, e80, e81, e82, e83, e84, e85, e86, e87, e88, e89, e90, e91, e92, e93, e94, e95, e96, e97, e98, e99, e100, e101, e102, e103, e104, e105, e106, e107, e108, e109, e110, e111, e112, e113, e114, e115, e116, e117, e118, e119, e120, e121, e122, e123, e124, e125, e126, e127, e128, e129, e130, e131, e132, e133, e134, e135, e136, e137, e138, e139, e140, e141, e142, e143, e144, e145, e146, e147, e148, e149, e150, e151, e152, e153, e154, e155, e156, e157, e158, e159, e160, e161, e162, e163, e164, e165, e166, e167, e168, e169, e170, e171, e172, e173, e174, e175, e176, e177, e178, e179, e180, e181, e182, e183, e184, e185, e186, e187, e188, e189, e190, e191, e192, e193, e194, e195, e196, e197, e198, e199, e200, e201, e202, e203, e204, e205, e206, e207, e208, e209, e210, e211, e212, e213, e214, e215, e216, e217, e218, e219, e220, e221, e222, e223, e224, e225, e226, e227, e228, e229, e230, e231, e232, e233, e234, e235, e236, e237, e238, e239, e240, e241, e242, e243, e244, e245, e246, e247, e248, e249, e250, e251, e252, e253, e254, e255, e256, e257, e258, e259, e260, e261, e262, e263, e264, e265, e266, e267, e268, e269, e270, e271, e272, e273, e274, e275, e276, e277, e278, e279, e280, e281, e282, e283, e284, e285, e286, e287, e288, e289, e290, e291, e292, e293, e294, e295, e296, e297, e298, e299, e300, e301, e302, e303, e304, e305, e306, e307, e308, e309, e310, e311, e312, e313, e314, e315, e316, e317, e318, e319, e320, e321, e322, e323, e324, e325, e326, e327, e328, e329, e330, e331, e332, e333, e334, e335, e336, e337, e338, e339, e340, e341, e342, e343, e344, e345, e346, e347, e348, e349, e350, e351, e352, e353, e354, e355, e356, e357, e358], []⟩ wr := by
  conv => arg 2; whnf
  have HJ := Aside0.mk hJ
  have HKK := Aside0.mk hK
  clear hJ hK
  have en : IntKind.i64.wrap ((N : Int) + 1) = (N : Int) + 1 := IntWalk.i64_in _ (by omega)
  by_cases c0 : t = 0
  · have hq := q0 c0
    have d0 : ((t : Int) == 0) = true := beq_iff_eq.mpr (by omega)
    have d3 : ((q : Int) != (N : Int) + 1) = false := bne_eq_false_iff_eq.mpr (by omega)
    have d4 : decide ((q : Int) < 1) = false := by simp; omega
    by_cases c1 : most < (t : Int)
    · have := q1 c1; omega
    · have d1 : decide (most < (t : Int)) = false := by simp; omega
      by_cases c2 : (t : Int) = most
      · have d2 : ((t : Int) == most) = true := beq_iff_eq.mpr c2
        clear c0 hq c1 c2
        clear q0 q1 q2
        go_wp2_with fail
        have hJ := HJ.out
        refine HKK.out _ _ ?_
        go_meet
        case rel => exact ⟨rfl, ⟨(by repeat (first | (with_reducible first | exact HB.out | apply below_alloc | apply pw_below_drewN | apply below_drew1) | exact HB.out))⟩⟩
      · have d2 : ((t : Int) == most) = false := beq_eq_false_iff_ne.mpr c2
        clear c0 hq c1 c2
        clear q0 q1 q2
        go_wp2_with fail
        have hJ := HJ.out
        refine HKK.out _ _ ?_
        go_meet
        case rel => exact ⟨rfl, ⟨(by repeat (first | (with_reducible first | exact HB.out | apply below_alloc | apply pw_below_drewN | apply below_drew1) | exact HB.out))⟩⟩
  · have d0 : ((t : Int) == 0) = false := beq_eq_false_iff_ne.mpr (by omega)
    by_cases c1 : most < (t : Int)
    · have hq := q1 c1
      have d1 : decide (most < (t : Int)) = true := by simp; omega
      have d2 : ((t : Int) == most) = false := beq_eq_false_iff_ne.mpr (by omega)
      have d3 : ((q : Int) != 0) = false := bne_eq_false_iff_eq.mpr (by omega)
      clear c0 hq c1
      clear q0 q1 q2
      go_wp2_with fail
      have hJ := HJ.out
      refine HKK.out _ _ ?_
      go_meet
      case rel => exact ⟨rfl, ⟨(by repeat (first | (with_reducible first | exact HB.out | apply below_alloc | apply pw_below_drewN | apply below_drew1) | exact HB.out))⟩⟩
    · have d1 : decide (most < (t : Int)) = false := by simp; omega
      by_cases c2 : (t : Int) = most
      · have hq := q2 c2
        have d2 : ((t : Int) == most) = true := beq_iff_eq.mpr c2
        have d4 : decide ((q : Int) < 1) = false := by simp; omega
        clear c0 hq c1 c2
        clear q0 q1 q2
        go_wp2_with fail
        have hJ := HJ.out
        refine HKK.out _ _ ?_
        go_meet
        case rel => exact ⟨rfl, ⟨(by repeat (first | (with_reducible first | exact HB.out | apply below_alloc | apply pw_below_drewN | apply below_drew1) | exact HB.out))⟩⟩
      · have d2 : ((t : Int) == most) = false := beq_eq_false_iff_ne.mpr c2
        clear c0 c1 c2
        clear q0 q1 q2
        go_wp2_with fail
        have hJ := HJ.out
        refine HKK.out _ _ ?_
        go_meet
        case rel => exact ⟨rfl, ⟨(by repeat (first | (with_reducible first | exact HB.out | apply below_alloc | apply pw_below_drewN | apply below_drew1) | exact HB.out))⟩⟩
set_option maxHeartbeats 8000000 in
set_option maxRecDepth 1000000 in
theorem partD_yes (first : ByteArray) (n most sum : Int) (w w1 : World) (e0 e2 e3 e4 e5 e6 e7 e8 e9 e10 e11 e12 e13 e14 e15 e16 e17 e18 e19 e20 e21 e22 e23 e24 e27 e28 e30 e31 e32 e34 e35 e36 e37 e38 e39 e40 e41 e42 e43 e44 e45 e46 e47 e48 e49 e50 e51 e52 e53 e54 e55 e56 e57 e58 e59 e60 e61 e62 e63 e64 e65 e66 e67 e68 e69 e70 e71 e72 e73 e74 e75 e76 e77 e78 e79 e80 e81 e82 e83 e84 e85 e86 e87 e88 e89 e90 e91 e92 e93 e94 e95 e96 e97 e98 e99 e100 e101 e102 e103 e104 e105 e106 e107 e108 e109 e110 e111 e112 e113 e114 e115 e116 e117 e118 e119 e120 e121 e122 e123 e124 e125 e126 e127 e128 e129 e130 e131 e132 e133 e134 e135 e136 e137 e138 e139 e140 e141 e142 e143 e144 e145 e146 e147 e148 e149 e150 e151 e152 e153 e154 e155 e156 e157 e158 e159 e160 e161 e162 e163 e164 e165 e166 e167 e168 e169 e170 e171 e172 e173 e174 e175 e176 e177 e178 e179 e180 e181 e182 e183 e184 e185 e186 e187 e188 e189 e190 e191 e192 e193 e194 e195 e196 e197 e198 e199 e200 e201 e202 e203 e204 e205 e206 e207 e208 e209 e210 e211 e212 e213 e214 e215 e216 e217 e218 e219 e220 e221 e222 e223 e224 e225 e226 e227 e228 e229 e230 e231 e232 e233 e234 e235 e236 e237 e238 e239 e240 e241 e242 e243 e244 e245 e246 e247 e248 e249 e250 e251 e252 e253 e254 e255 e256 e257 e258 e259 e260 e261 e262 e263 e264 e265 e266 e267 e268 e269 e270 e271 e272 e273 e274 e276 e277 e278 e279 e280 e281 e282 e283 e284 e285 e286 e287 e288 e289 e290 e291 e292 e293 e294 e295 e296 e297 e298 e299 e300 e301 e302 e303 e304 e305 e306 e307 e308 e309 e310 e311 e312 e313 e314 e315 e316 e317 e318 e319 e320 e321 e322 e323 e324 e325 e326 e327 e328 e329 e330 e331 e332 e333 e334 e335 e336 e337 e338 e339 e340 e341 e342 e343 e344 e345 e346 e347 e348 e349 e350 e351 e352 e353 e354 e355 e356 e357 e358 : Value) (wr : World)
    (HB1 : Aside0 (Below w.heap.size w w1)) (HF2 : Aside0 (∃ (N : Nat) (c : Nat → Nat) (C W : Nat → Nat), n = (N : Int) ∧ 1 ≤ N ∧ N ≤ 12 ∧ (∀ W, Below w.heap.size w W → Calls Tryd.prog 35 #[.string first] W fun e w' => e = .returned (.tuple #[.int .i64 most, .bool true]) ∧ Below W.heap.size W w') ∧
      (∀ t : Nat, t ≤ N → ∀ W, Below w.heap.size w W → Calls Tryd.prog 31 #[.int .i64 (N : Int), .int .i64 (t : Int)] W fun e w' => e = .returned (.tuple #[.int .i64 (c t : Int), .bool true]) ∧ Below W.heap.size W w') ∧
      (∀ t : Nat, t ≤ N → (most < (t : Int) → c t = 0) ∧ ((t : Int) = most → 1 ≤ c t) ∧ c t ≤ 4096) ∧ c 0 = N + 1 ∧ first.size = N ∧ most ≤ (N : Int) ∧
      C 0 = 0 ∧ (∀ t, C (t + 1) = C t + c t) ∧ W 0 = 0 ∧ (∀ t, W (t + 1) = W t + t * c t) ∧ C (N + 1) = 2 ^ N ∧ (W (N + 1) : Int) = sum ∧ ∀ t, t ≤ N + 1 → C t ≤ 100000000 ∧ W t ≤ 100000000))
    (HB : Aside0 (Below w1.heap.size w1 wr))
    (Q' : Exit → Act → World → Prop) (K' J : Act → World → Prop) (hK : ∀ (a' : Act) (w' : World), Met J a' w' → K' a' w')
    (hJ : ∀ (a' : Act) (w' : World), (∃ u10 u45 u46 u47 u48 u49 u50 u51 u276 u277 u278 u279 u280 u281 u282 u283 u284 u285 u286 u287 u288 u289 u290 u291 u292 u293 u294 u295 u296 u297 u298 u299 u300 u301 u302 u303 u304 u305 u306 u307 u308 u309 u310 u311 u312 u313 u314 u315 u316 u317 u318 u319 u320 u321 u322 u323 u324 u325 u326 u327 u328 u329 u330 u331 u332 u333 u334 u335 u336 u337 u338 u339 u340 u341 u342 u343 u344 u345 u346 u347 u348 u349 u350 u351 u352 u353 u354 u355 u356 u357 u358 : Value, (Aside0 (Below w1.heap.size w1 w')) ∧ a' = ⟨#[e0, .int .i64 n, e2, e3, e4, e5, e6, e7, e8, e9, u10, e11, e12, e13, e14, e15, e16, e17, e18, e19, e20, e21, e22, e23, e24, .int .i64 most, .bool true, e27, e28, .string first, e30, e31, e32, .int .i64 sum, e34, e35, e36, e37, e38, e39, e40, e41, e42, e43, e44, u45, u46, u47, u48, u49, u50, u51, e52, e53, e54, e55, e56, e57, e58, e59, e60, e61, e62, e63, e64, e65, e66, e67, e68, e69, e70, e71, e72, e73, e74, e75, e76, e77, e78, e79, e80, e81, e82, e83, e84, e85, e86, e87, e88, e89, e90, e91, e92, e93, e94, e95, e96, e97, e98, e99, e100, e101, e102, e103, e104, e105, e106, e107, e108, e109, e110, e111, e112, e113, e114, e115, e116, e117, e118, e119, e120, e121, e122, e123, e124, e125, e126, e127, e128, e129, e130, e131, e132, e133, e134, e135, e136, e137, e138, e139, e140, e141, e142, e143, e144, e145, e146, e147, e148, e149, e150, e151, e152, e153, e154, e155, e156, e157, e158, e159, e160, e161, e162, e163, e164, e165, e166, e167, e168, e169, e170, e171, e172, e173, e174, e175, e176, e177, e178, e179, e180, e181, e182, e183, e184, e185, e186, e187, e188, e189, e190, e191, e192, e193, e194, e195, e196, e197, e198, e199, e200, e201, e202, e203, e204, e205, e206, e207, e208, e209, e210, e211, e212, e213, e214, e215, e216, e217, e218, e219, e220, e221, e222, e223, e224, e225, e226, e227, e228, e229, e230, e231, e232, e233, e234, e235, e236, e237, e238, e239, e240, e241, e242, e243, e244, e245, e246, e247, e248, e249, e250, e251, e252, e253, e254, e255, e256, e257, e258, e259, e260, e261, e262, e263, e264, e265, e266, e267, e268, e269, e270, e271, e272, e273, e274, .bool true, u276, u277, u278, u279, u280, u281, u282, u283, u284, u285, u286, u287, u288, u289, u290, u291, u292, u293, u294, u295, u296, u297, u298, u299, u300, u301, u302, u303, u304, u305, u306, u307, u308, u309, u310, u311, u312, u313, u314, u315, u316, u317, u318, u319, u320, u321, u322, u323, u324, u325, u326, u327, u328, u329, u330, u331, u332, u333, u334, u335, u336, u337, u338, u339, u340, u341, u342, u343, u344, u345, u346, u347, u348, u349, u350, u351, u352, u353, u354, u355, u356, u357, u358], []⟩) → J a' w') :
    Code.wp Tryd.prog (condOf Tryd.f6 275) (Exit.then K' Q') ⟨#[e0, .int .i64 n, e2, e3, e4, e5, e6, e7, e8, e9, e10, e11, e12, e13, e14, e15, e16, e17, e18, e19, e20, e21, e22, e23, e24, .int .i64 most, .bool true, e27, e28, .string first, e30, e31, e32, .int .i64 sum, e34, e35, e36, e37, e38, e39, e40, e41, e42, e43, e44, e45, e46, e47, e48, e49, e50, e51, e52, e53, e54, e55, e56, e57, e58, e59, e60, e61, e62, e63, e64, e65, e66, e67, e68, e69, e70, e71, e72, e73, e74, e75, e76, e77, e78, e79, e80, e81, e82, e83, e84, e85, e86, e87, e88, e89, e90, e91, e92, e93, e94, e95, e96, e97, e98, e99, e100, e101, e102, e103, e104, e105, e106, e107, e108, e109, e110, e111, e112, e113, e114, e115, e116, e117, e118, e119, e120, e121, e122, e123, e124, e125, e126, e127, e128, e129, e130, e131, e132, e133, e134, e135, e136, e137, e138, e139, e140, e141, e142, e143, e144, e145, e146, e147, e148, e149, e150, e151, e152, e153, e154, e155, e156, e157, e158, e159, e160, e161, e162, e163, e164, e165, e166, e167, e168, e169, e170, e171, e172, e173, e174, e175, e176, e177, e178, e179, e180, e181, e182, e183, e184, e185, e186, e187, e188, e189, e190, e191, e192, e193, e194, e195, e196, e197, e198, e199, e200, e201, e202, e203, e204, e205, e206, e207, e208, e209, e210, e211, e212, e213, e214, e215, e216, e217, e218, e219, e220, e221, e222, e223, e224, e225, e226, e227, e228, e229, e230, e231, e232, e233, e234, e235, e236, e237, e238, e239, e240, e241, e242, e243, e244, e245, e246, e247, e248, e249, e250, e251, e252, e253, e254, e255, e256, e257, e258, e259, e260, e261, e262, e263, e264, e265, e266, e267, e268, e269, e270, e271, e272, e273, e274, .bool true, e276, e277, e278, e279, e280, e281, e282, e283, e284, e285, e286, e287, e288, e289, e290, e291, e292, e293, e294, e295, e296, e297, e298, e299, e300, e301, e302, e303, e304, e305, e306, e307, e308, e309, e310, e311, e312, e313, e314, e315, e316, e317, e318, e319, e320, e321, e322, e323, e324, e325, e326, e327, e328, e329, e330, e331, e332, e333, e334, e335, e336, e337, e338, e339, e340, e341, e342, e343, e344, e345, e346, e347, e348, e349, e350, e351, e352, e353, e354, e355, e356, e357, e358], []⟩ wr := by
  conv => arg 2; whnf
  have HJ := Aside0.mk hJ
  have HKK := Aside0.mk hK
  clear hJ hK
  obtain ⟨N, c, C, W, rfl, hN1, hN2, hneed, hcnt, hc, hc0, hfs, hmost, hC0, hCs, hW0, hWs, hCN, hWN, hbd⟩ := HF2.out
  have HNEED := Aside0.mk hneed
  have HCNT := Aside0.mk hcnt
  have HCC := Aside0.mk hc
  have HC0 := Aside0.mk hc0
  have HCS := Aside0.mk hCs
  have HWS := Aside0.mk hWs
  have HBD := Aside0.mk hbd
  have HCN := Aside0.mk hCN
  have HWN := Aside0.mk hWN
  have HFS := Aside0.mk hfs
  have HM := Aside0.mk hmost
  clear hneed hcnt hc hc0 hCs hWs hbd hCN hWN hfs HF2 hmost
  go_wp2_with (go_at_call 35; with_reducible refine (HNEED.out _ (below_step HB1.out (by repeat (first | (with_reducible first | exact HB.out | apply below_alloc | apply pw_below_drewN | apply below_drew1) | exact HB.out)))).mono ?_; rintro e w60 ⟨rfl, hb⟩; have HBn := Aside0.mk (below_step (by repeat (first | (with_reducible first | exact HB.out | apply below_alloc | apply pw_below_drewN | apply below_drew1) | exact HB.out)) hb); clear hb HB; have HB := HBn; clear HBn; try dsimp only)
  go_loopg [47, 48, 49] (N + 1) (fun kq v47 v48 v49 w' => ∃ t : Nat, v47 = .int .i64 (C t : Int) ∧ v48 = .int .i64 (W t : Int) ∧ v49 = .int .i64 (t : Int) ∧ Aside0 (kq + t = N + 1) ∧ Aside0 (Below w1.heap.size w1 w'))
  case atStart => exact ⟨0, by rw [hC0]; rfl, by rw [hW0]; rfl, rfl, ⟨rfl⟩, ⟨(by repeat (first | (with_reducible first | exact HB.out | apply below_alloc | apply pw_below_drewN | apply below_drew1) | exact HB.out))⟩⟩
  case round =>
    clear HB
    obtain ⟨t, rfl, rfl, rfl, HK, HB⟩ := hrel
    have hk := HK.out
    by_cases ht : t ≤ N
    · obtain ⟨q1, q2, q3⟩ := HCC.out t ht
      have q0 : t = 0 → c t = N + 1 := fun e => by rw [e]; exact HC0.out
      have HCA := Aside0.mk (HCNT.out t ht)
      obtain ⟨bC, bW⟩ := HBD.out (t + 1) (by omega)
      have eC := HCS.out t
      have eW := HWS.out t
      have HEC := Aside0.mk eC
      have HEW := Aside0.mk eW
      have hpw : ((t * c t : Nat) : Int) = (t : Int) * (c t : Int) := by push_cast; rfl
      generalize hpp : t * c t = p at *
      generalize c t = q at *
      generalize C t = x at *
      generalize W t = y at *
      have hx : x ≤ 100000000 := by rw [HEC.out] at bC; omega
      have hy : y ≤ 100000000 := by rw [HEW.out] at bW; omega
      have hpb : p ≤ 100000000 := by rw [HEW.out] at bW; omega
      clear bC bW
      have e2 := RLawH.add_mul_nat y p ((t : Int) * (q : Int)) hpw.symm hy hpb
      have e1 := RLawH.add_nat x q hx (Nat.le_trans q3 (by decide))
      have e3 := RLawH.add_nat t 1 (Nat.le_trans ht (Nat.le_trans hN2 (by decide))) (by decide)
      have E1 := Aside0.mk e1
      have E2 := Aside0.mk e2
      have E3 := Aside0.mk e3
      clear e1 e2 e3
      have HQ3 := Aside0.mk q3
      have HTN := Aside0.mk ht
      have HN2 := Aside0.mk hN2
      have HK0 := Aside0.mk hk
      clear hpw hpp eC eW q3 hx hy hpb hk
      have Q0 := Aside0.mk q0
      have Q1 := Aside0.mk q1
      have Q2 := Aside0.mk q2
      clear q0 q1 q2
      go_upto_region 39 with (go_at_call 31; with_reducible refine (HCA.out _ (below_step HB1.out (by repeat (first | (with_reducible first | exact HB.out | apply below_alloc | apply pw_below_drewN | apply below_drew1) | exact HB.out)))).mono ?_; rintro e w70 ⟨rfl, hb⟩; have HBn := Aside0.mk (below_step (by repeat (first | (with_reducible first | exact HB.out | apply below_alloc | apply pw_below_drewN | apply below_drew1) | exact HB.out)) hb); clear hb HB; have HB := HBn; clear HBn; try dsimp only)
      go_cut [321] from 281 to 329 (fun s321 wx => s321 = .bool false ∧ Aside0 (Below w1.heap.size w1 wx))
      case first =>
        exact partC N t q most w1 _ _ _ _ _ _ _ _ _ _ _ _ _ _ _ _ _ _ _ _ _ _ _ _ _ _ _ _ _ _ _ _ _ _ _ _ _ _ _ _ _ _ _ _ _ _ _ _ _ _ _ _ _ _ _ _ _ _ _ _ _ _ _ _ _ _ _ _ _ _ _ _ _ _ _ _ _ _ _ _ _ _ _ _ _ _ _ _ _ _ _ _ _ _ _ _ _ _ _ _ _ _ _ _ _ _ _ _ _ _ _ _ _ _ _ _ _ _ _ _ _ _ _ _ _ _ _ _ _ _ _ _ _ _ _ _ _ _ _ _ _ _ _ _ _ _ _ _ _ _ _ _ _ _ _ _ _ _ _ _ _ _ _ _ _ _ _ _ _ _ _ _ _ _ _ _ _ _ _ _ _ _ _ _ _ _ _ _ _ _ _ _ _ _ _ _ _ _ _ _ _ _ _ _ _ _ _ _ _ _ _ _ _ _ _ _ _ _ _ _ _ _ _ _ _ _ _ _ _ _ _ _ _ _ _ _ _ _ _ _ _ _ _ _ _ _ _ _ _ _ _ _ _ _ _ _ _ _ _ _ _ _ _ _ _ _ _ _ _ _ _ _ _ _ _ _ _ _ _ _ _ _ _ _ _ _ _ _ _ _ _ _ _ _ _ _ _ _ _ _ _ _ _ _ _ _ _ _ _ _ _ _ _ _ _ _ _ _ _ _ _ _ _ _ _ _ _ _ _ _ _ _ _ _ _ _ _ _ _ _ _ _ _ _ _ _ _ _ _ _ _ _ _ _ _ HN2.out ht Q0.out Q1.out Q2.out HQ3.out ⟨(by repeat (first | (with_reducible first | exact HB.out | apply below_alloc | apply pw_below_drewN | apply below_drew1) | exact HB.out))⟩ _ _ _ (by assumption) (by assumption)
      case rest =>
      clear HB hN1 hN2 ht
      obtain ⟨rfl, HB⟩ := hcut
      go_wp2_with fail
      have hk := HK0.out
      have ht := HTN.out
      go_roundg (N + 1 - (t + 1))
      case measure => omega
      case rel => exact ⟨t + 1, by rw [HEC.out, ← E1.out], by rw [HEW.out, ← E2.out], by rw [← E3.out]; rfl, ⟨by omega⟩, ⟨(by repeat (first | (with_reducible first | exact HB.out | apply below_alloc | apply pw_below_drewN | apply below_drew1) | exact HB.out))⟩⟩
    · have hd : decide ((t : Int) ≤ (N : Int)) = false := by simp; omega
      have htN : t = N + 1 := by omega
      have hP := RLawH.pow_12 N hN2
      have hpw := RLawH.wrap_pow N hN2
      have hCN := HCN.out
      have hWN := HWN.out
      rw [← htN] at hCN hWN
      clear HCN HWN HCC HCS HWS HBD HCNT HC0
      generalize 2 ^ N = P at *
      generalize C t = x at *
      generalize W t = y at *
      subst hCN hWN
      have hfs := HFS.out
      have hm := HM.out
      clear htN
      go_wp2_with fail
      have hJ := HJ.out
      refine HKK.out _ _ ?_
      go_meet
      case rel => exact ⟨(by repeat (first | (with_reducible first | exact HB.out | apply below_alloc | apply pw_below_drewN | apply below_drew1) | exact HB.out))⟩
end Go.Proofs.YtleacijhpkogpabDoor.RBig
/- The law on rows before (FnRowsBeforeOfAll), a part of its walk: from the counts on. -/
namespace Go.Proofs.YtleacijhpkogpabDoor.RBig
open Go.RowKit Go.Proofs.YtleacijhpkogpabDoorW.PrintWords Go.Proofs.YtleacijhpkogpabDoorW.PrintLast Go.Proofs.YtleacijhpkogpabDoorW.PrintMore Go.Proofs.YtleacijhpkogpabDoor.Part
set_option linter.unusedVariables false
set_option linter.unusedSimpArgs false

set_option maxHeartbeats 8000000 in
set_option maxRecDepth 1000000 in
theorem rest1 (first : ByteArray) (n m ticks k most sum x5 x6 : Int) (b2 b5 b6 : Bool) (w w1 : World) (e0 e5 e6 e7 e8 e9 e10 e11 e12 e13 e14 e15 e16 e17 e18 e19 e20 e21 e22 e23 e24 e25 e26 e27 e28 e29 e30 e31 e32 e33 e34 e35 e36 e37 e38 e39 e40 e41 e42 e43 e44 e45 e46 e47 e48 e49 e50 e51 e52 e53 e54 e55 e56 e57 e58 e59 e60 e61 e62 e63 e64 e65 e66 e67 e68 e69 e70 e71 e72 e73 e74 e75 e76 e77 e78 e79 e80 e81 e82 e83 e84 e85 e86 e87 e88 e89 e90 e91 e92 e93 e94 e95 e96 e97 e98 e99 e100 e101 e102 e103 e104 e105 e106 e107 e108 e109 e110 e111 e112 e113 e114 e115 e116 e117 e118 e119 e120 e121 e122 e123 e124 e125 e126 e127 e128 e129 e130 e131 e132 e133 e134 e135 e136 e137 e138 e139 e140 e141 e142 e143 e144 e145 e146 e147 e148 e149 e150 e151 e152 e153 e154 e155 e156 e157 e158 e159 e160 e161 e162 e163 e164 e165 e166 e167 e168 e169 e170 e171 e172 e173 e174 e175 e176 e177 e178 e179 e180 e181 e182 e183 e184 e185 e186 e187 e188 e189 e190 e191 e192 e193 e194 e195 e196 e197 e198 e199 e200 e201 e202 e203 e204 e205 e206 e207 e208 e209 e210 e211 e212 e213 e214 e215 e216 e217 e218 e219 e220 e221 e222 e223 e224 e225 e226 e227 e228 e229 e230 e231 e232 e233 e234 e235 e236 e237 e238 e239 e240 e241 e242 e243 e244 e245 e246 e247 e248 e249 e250 e251 e252 e253 e254 e255 e256 e257 e258 e259 e260 e261 e262 e263 e264 e265 e266 e267 e268 e269 e270 e271 e272 e273 e274 e275 e276 e277 e278 e279 e280 e281 e282 e283 e284 e285 e286 e287 e288 e289 e290 e291 e292 e293 e294 e295 e296 e297 e298 e299 e300 e301 e302 e303 e304 e305 e306 e307 e308 e309 e310 e311 e312 e313 e314 e315 e316 e317 e318 e319 e320 e321 e322 e323 e324 e325 e326 e327 e328 e329 e330 e331 e332 e333 e334 e335 e336 e337 e338 e339 e340 e341 e342 e343 e344 e345 e346 e347 e348 e349 e350 e351 e352 e353 e354 e355 e356 e357 e358 : Value) (wr : World)
    (HB1 : Aside0 (Below w.heap.size w w1))
    (HI0 : Aside0 (∀ W, Below w.heap.size w W → Calls Tryd.prog 25 #[.int .i64 n] W fun e w' => e = .returned (.tuple #[.int .i64 most, .bool b2]) ∧ Below W.heap.size W w'))
    (HS0 : Aside0 (∀ W, Below w.heap.size w W → Calls Tryd.prog 26 #[.int .i64 n] W fun e w' => e = .returned (.tuple #[.int .i64 most, .bool b2]) ∧ Below W.heap.size W w'))
    (HI1 : Aside0 (∀ W, Below w.heap.size w W → Calls Tryd.prog 27 #[.int .i64 n] W fun e w' => e = .returned (.tuple #[.string first, .bool b2]) ∧ Below W.heap.size W w'))
    (HS1 : Aside0 (∀ W, Below w.heap.size w W → Calls Tryd.prog 28 #[.int .i64 n] W fun e w' => e = .returned (.tuple #[.string first, .bool b2]) ∧ Below W.heap.size W w'))
    (HI2 : Aside0 (∀ W, Below w.heap.size w W → Calls Tryd.prog 29 #[.int .i64 n] W fun e w' => e = .returned (.tuple #[.int .i64 sum, .bool b2]) ∧ Below W.heap.size W w'))
    (HS2 : Aside0 (∀ W, Below w.heap.size w W → Calls Tryd.prog 30 #[.int .i64 n] W fun e w' => e = .returned (.tuple #[.int .i64 sum, .bool b2]) ∧ Below W.heap.size W w'))
    (HI3 : Aside0 (∀ W, Below w.heap.size w W → Calls Tryd.prog 31 #[.int .i64 m, .int .i64 ticks] W fun e w' => e = .returned (.tuple #[.int .i64 x5, .bool b5]) ∧ Below W.heap.size W w'))
    (HS3 : Aside0 (∀ W, Below w.heap.size w W → Calls Tryd.prog 32 #[.int .i64 m, .int .i64 ticks] W fun e w' => e = .returned (.tuple #[.int .i64 x5, .bool b5]) ∧ Below W.heap.size W w'))
    (HI4 : Aside0 (∀ W, Below w.heap.size w W → Calls Tryd.prog 33 #[.int .i64 k] W fun e w' => e = .returned (.tuple #[.int .i64 x6, .bool b6]) ∧ Below W.heap.size W w'))
    (HS4 : Aside0 (∀ W, Below w.heap.size w W → Calls Tryd.prog 34 #[.int .i64 k] W fun e w' => e = .returned (.tuple #[.int .i64 x6, .bool b6]) ∧ Below W.heap.size W w'))
    (HF6 : Aside0 (b6 = true → x6 = wrap64 (k + 1))) (HF2 : Aside0 (b2 = true → ∃ (N : Nat) (c : Nat → Nat) (C W : Nat → Nat), n = (N : Int) ∧ 1 ≤ N ∧ N ≤ 12 ∧ (∀ W, Below w.heap.size w W → Calls Tryd.prog 35 #[.string first] W fun e w' => e = .returned (.tuple #[.int .i64 most, .bool true]) ∧ Below W.heap.size W w') ∧
      (∀ t : Nat, t ≤ N → ∀ W, Below w.heap.size w W → Calls Tryd.prog 31 #[.int .i64 (N : Int), .int .i64 (t : Int)] W fun e w' => e = .returned (.tuple #[.int .i64 (c t : Int), .bool true]) ∧ Below W.heap.size W w') ∧
      (∀ t : Nat, t ≤ N → (most < (t : Int) → c t = 0) ∧ ((t : Int) = most → 1 ≤ c t) ∧ c t ≤ 4096) ∧ c 0 = N + 1 ∧ first.size = N ∧ most ≤ (N : Int) ∧
      C 0 = 0 ∧ (∀ t, C (t + 1) = C t + c t) ∧ W 0 = 0 ∧ (∀ t, W (t + 1) = W t + t * c t) ∧ C (N + 1) = 2 ^ N ∧ (W (N + 1) : Int) = sum ∧ ∀ t, t ≤ N + 1 → C t ≤ 100000000 ∧ W t ≤ 100000000))
    (HB : Aside0 (Below w1.heap.size w1 wr))
    : Code.wp Tryd.prog (seqOf Tryd.f6 20) (bodyPost Tryd.prog Tryd.f6 fun e w' => e = .returned (.bool true) ∧ Below w.heap.size w w') ⟨#[e0, .int .i64 n, .int .i64 m, .int .i64 ticks, .int .i64 k, e5, e6, e7, e8, e9, e10, e11, e12, e13, e14, e15, e16, e17, e18, e19, e20, e21, e22, e23, e24, e25, e26, e27, e28, e29, e30, e31, e32, e33, e34, e35, e36, e37, e38, e39, e40, e41, e42, e43, e44, e45, e46, e47, e48, e49, e50, e51, e52, e53, e54, e55, e56, e57, e58, e59, e60, e61, e62, e63, e64, e65, e66, e67, e68, e69, e70, e71, e72, e73, e74, e75, e76, e77, e78, e79, e80, e81, e82, e83, e84, e85, e86, e87, e88, e89, e90, e91, e92, e93, e94, e95, e96, e97, e98, e99, e100, e101, e102, e103, e104, e105, e106, e107, e108, e109, e110, e111, e112, e113, e114, e115, e116, e117, e118, e119, e120, e121, e122, e123, e124, e125, e126, e127, e128, e129, e130, e131, e132, e133, e134, e135, e136, e137, e138, e139, e140, e141, e142, e143, e144, e145, e146, e147, e148, e149, e150, e151, e152, e153, e154, e155, e156, e157, e158, e159, e160, e161, e162, e163, e164, e165, e166, e167, e168, e169, e170, e171, e172, e173, e174, e175, e176, e177, e178, e179, e180, e181, e182, e183, e184, e185, e186, e187, e188, e189, e190, e191, e192, e193, e194, e195, e196, e197, e198, e199, e200, e201, e202, e203, e204, e205, e206, e207, e208, e209, e210, e211, e212, e213, e214, e215, e216, e217, e218, e219, e220, e221, e222, e223, e224, e225, e226, e227, e228, e229, e230, e231, e232, e233, e234, e235, e236, e237, e238, e239, e240, e241, e242, e243, e244, e245, e246, e247, e248, e249, e250, e251, e252, e253, e254, e255, e256, e257, e258, e259, e260, e261, e262, e263, e264, e265, e266, e267, e268, e269, e270, e271, e272, e273, e274, e275, e276, e277, e278, e279, e280, e281, e282, e283, e284, e285, e286, e287, e288, e289, e290, e291, e292, e293, e294, e295, e296, e297, e298, e299, e300, e301, e302, e303, e304, e305, e306, e307, e308, e309, e310, e311, e312, e313, e314, e315, e316, e317, e318, e319, e320, e321, e322, e323, e324, e325, e326, e327, e328, e329, e330, e331, e332, e333, e334, e335, e336, e337, e338, e339, e340, e341, e342, e343, e344, e345, e346, e347, e348, e349, e350, e351, e352, e353, e354, e355, e356, e357, e358], []⟩ wr := by
  conv => arg 2; whnf
  go_upto_region 30 with (first | (go_at_call 25; with_reducible refine (HI0.out _ (below_step HB1.out (by repeat (first | (with_reducible first | exact HB.out | apply below_alloc | apply pw_below_drewN | apply below_drew1) | exact HB.out)))).mono ?_; rintro e w30 ⟨rfl, hb⟩; have HBn := Aside0.mk (below_step (by repeat (first | (with_reducible first | exact HB.out | apply below_alloc | apply pw_below_drewN | apply below_drew1) | exact HB.out)) hb); clear hb HB; have HB := HBn; clear HBn; try dsimp only) | (go_at_call 26; with_reducible refine (HS0.out _ (below_step HB1.out (by repeat (first | (with_reducible first | exact HB.out | apply below_alloc | apply pw_below_drewN | apply below_drew1) | exact HB.out)))).mono ?_; rintro e w31 ⟨rfl, hb⟩; have HBn := Aside0.mk (below_step (by repeat (first | (with_reducible first | exact HB.out | apply below_alloc | apply pw_below_drewN | apply below_drew1) | exact HB.out)) hb); clear hb HB; have HB := HBn; clear HBn; try dsimp only) | (go_at_call 27; with_reducible refine (HI1.out _ (below_step HB1.out (by repeat (first | (with_reducible first | exact HB.out | apply below_alloc | apply pw_below_drewN | apply below_drew1) | exact HB.out)))).mono ?_; rintro e w32 ⟨rfl, hb⟩; have HBn := Aside0.mk (below_step (by repeat (first | (with_reducible first | exact HB.out | apply below_alloc | apply pw_below_drewN | apply below_drew1) | exact HB.out)) hb); clear hb HB; have HB := HBn; clear HBn; try dsimp only) | (go_at_call 28; with_reducible refine (HS1.out _ (below_step HB1.out (by repeat (first | (with_reducible first | exact HB.out | apply below_alloc | apply pw_below_drewN | apply below_drew1) | exact HB.out)))).mono ?_; rintro e w33 ⟨rfl, hb⟩; have HBn := Aside0.mk (below_step (by repeat (first | (with_reducible first | exact HB.out | apply below_alloc | apply pw_below_drewN | apply below_drew1) | exact HB.out)) hb); clear hb HB; have HB := HBn; clear HBn; try dsimp only) | (go_at_call 29; with_reducible refine (HI2.out _ (below_step HB1.out (by repeat (first | (with_reducible first | exact HB.out | apply below_alloc | apply pw_below_drewN | apply below_drew1) | exact HB.out)))).mono ?_; rintro e w34 ⟨rfl, hb⟩; have HBn := Aside0.mk (below_step (by repeat (first | (with_reducible first | exact HB.out | apply below_alloc | apply pw_below_drewN | apply below_drew1) | exact HB.out)) hb); clear hb HB; have HB := HBn; clear HBn; try dsimp only) | (go_at_call 30; with_reducible refine (HS2.out _ (below_step HB1.out (by repeat (first | (with_reducible first | exact HB.out | apply below_alloc | apply pw_below_drewN | apply below_drew1) | exact HB.out)))).mono ?_; rintro e w35 ⟨rfl, hb⟩; have HBn := Aside0.mk (below_step (by repeat (first | (with_reducible first | exact HB.out | apply below_alloc | apply pw_below_drewN | apply below_drew1) | exact HB.out)) hb); clear hb HB; have HB := HBn; clear HBn; try dsimp only) | (go_at_call 31; with_reducible refine (HI3.out _ (below_step HB1.out (by repeat (first | (with_reducible first | exact HB.out | apply below_alloc | apply pw_below_drewN | apply below_drew1) | exact HB.out)))).mono ?_; rintro e w36 ⟨rfl, hb⟩; have HBn := Aside0.mk (below_step (by repeat (first | (with_reducible first | exact HB.out | apply below_alloc | apply pw_below_drewN | apply below_drew1) | exact HB.out)) hb); clear hb HB; have HB := HBn; clear HBn; try dsimp only) | (go_at_call 32; with_reducible refine (HS3.out _ (below_step HB1.out (by repeat (first | (with_reducible first | exact HB.out | apply below_alloc | apply pw_below_drewN | apply below_drew1) | exact HB.out)))).mono ?_; rintro e w37 ⟨rfl, hb⟩; have HBn := Aside0.mk (below_step (by repeat (first | (with_reducible first | exact HB.out | apply below_alloc | apply pw_below_drewN | apply below_drew1) | exact HB.out)) hb); clear hb HB; have HB := HBn; clear HBn; try dsimp only) | (go_at_call 33; with_reducible refine (HI4.out _ (below_step HB1.out (by repeat (first | (with_reducible first | exact HB.out | apply below_alloc | apply pw_below_drewN | apply below_drew1) | exact HB.out)))).mono ?_; rintro e w38 ⟨rfl, hb⟩; have HBn := Aside0.mk (below_step (by repeat (first | (with_reducible first | exact HB.out | apply below_alloc | apply pw_below_drewN | apply below_drew1) | exact HB.out)) hb); clear hb HB; have HB := HBn; clear HBn; try dsimp only) | (go_at_call 34; with_reducible refine (HS4.out _ (below_step HB1.out (by repeat (first | (with_reducible first | exact HB.out | apply below_alloc | apply pw_below_drewN | apply below_drew1) | exact HB.out)))).mono ?_; rintro e w39 ⟨rfl, hb⟩; have HBn := Aside0.mk (below_step (by repeat (first | (with_reducible first | exact HB.out | apply below_alloc | apply pw_below_drewN | apply below_drew1) | exact HB.out)) hb); clear hb HB; have HB := HBn; clear HBn; try dsimp only))
  clear HI0 HS0 HI1 HS1 HI2 HS2 HI3 HS3 HI4 HS4
  go_cut [274] from 208 to 273 (fun s274 wx => s274 = .bool false ∧ Aside0 (Below w1.heap.size w1 wx))
  case first =>
    cases b6 with
    | false => exact partB_no first k most sum x5 x6 b2 b5 w1 _ _ _ _ _ _ _ _ _ _ _ _ _ _ _ _ _ _ _ _ _ _ _ _ _ _ _ _ _ _ _ _ _ _ _ _ _ _ _ _ _ _ _ _ _ _ _ _ _ _ _ _ _ _ _ _ _ _ _ _ _ _ _ _ _ _ _ _ _ _ _ _ _ _ _ _ _ _ _ _ _ _ _ _ _ _ _ _ _ _ _ _ _ _ _ _ _ _ _ _ _ _ _ _ _ _ _ _ _ _ _ _ _ _ _ _ _ _ _ _ _ _ _ _ _ _ _ _ _ _ _ _ _ _ _ _ _ _ _ _ _ _ _ _ _ _ _ _ _ _ _ _ _ _ _ _ _ _ _ _ _ _ _ _ _ _ _ _ _ _ _ _ _ _ _ _ _ _ _ _ _ _ _ _ _ _ _ _ _ _ _ _ _ _ _ _ _ _ _ _ _ _ _ _ _ _ _ _ _ _ _ _ _ _ _ _ _ _ _ _ _ _ _ _ _ _ _ _ _ _ _ _ _ _ _ _ _ _ _ _ _ _ _ _ _ _ _ _ _ _ _ _ _ _ _ _ _ _ _ _ _ _ _ _ _ _ _ _ _ _ _ _ _ _ _ _ _ _ _ _ _ _ _ _ _ _ _ _ _ _ _ _ _ _ _ _ _ _ _ _ _ _ _ _ _ _ _ _ _ _ _ _ _ _ _ _ _ _ _ _ _ _ _ _ _ _ _ _ _ _ _ _ _ _ _ _ _ _ _ ⟨(by repeat (first | (with_reducible first | exact HB.out | apply below_alloc | apply pw_below_drewN | apply below_drew1) | exact HB.out))⟩ _ _ _ (by assumption) (by assumption)
    | true =>
      obtain rfl := HF6.out rfl
      exact partB_yes first k most sum x5 0 b2 b5 w1 _ _ _ _ _ _ _ _ _ _ _ _ _ _ _ _ _ _ _ _ _ _ _ _ _ _ _ _ _ _ _ _ _ _ _ _ _ _ _ _ _ _ _ _ _ _ _ _ _ _ _ _ _ _ _ _ _ _ _ _ _ _ _ _ _ _ _ _ _ _ _ _ _ _ _ _ _ _ _ _ _ _ _ _ _ _ _ _ _ _ _ _ _ _ _ _ _ _ _ _ _ _ _ _ _ _ _ _ _ _ _ _ _ _ _ _ _ _ _ _ _ _ _ _ _ _ _ _ _ _ _ _ _ _ _ _ _ _ _ _ _ _ _ _ _ _ _ _ _ _ _ _ _ _ _ _ _ _ _ _ _ _ _ _ _ _ _ _ _ _ _ _ _ _ _ _ _ _ _ _ _ _ _ _ _ _ _ _ _ _ _ _ _ _ _ _ _ _ _ _ _ _ _ _ _ _ _ _ _ _ _ _ _ _ _ _ _ _ _ _ _ _ _ _ _ _ _ _ _ _ _ _ _ _ _ _ _ _ _ _ _ _ _ _ _ _ _ _ _ _ _ _ _ _ _ _ _ _ _ _ _ _ _ _ _ _ _ _ _ _ _ _ _ _ _ _ _ _ _ _ _ _ _ _ _ _ _ _ _ _ _ _ _ _ _ _ _ _ _ _ _ _ _ _ _ _ _ _ _ _ _ _ _ _ _ _ _ _ _ _ _ _ _ _ _ _ _ _ _ _ _ _ _ _ _ _ _ _ _ ⟨(by repeat (first | (with_reducible first | exact HB.out | apply below_alloc | apply pw_below_drewN | apply below_drew1) | exact HB.out))⟩ _ _ _ (by assumption) (by assumption)
  case rest =>
  clear HB HF6
  obtain ⟨rfl, HB⟩ := hcut
  go_upto_if 275 with fail
  go_cut [] from 276 to 358 (fun wx => Aside0 (Below w1.heap.size w1 wx))
  case first =>
    cases b2 with
    | false => exact partD_no first n most sum w w1 _ _ _ _ _ _ _ _ _ _ _ _ _ _ _ _ _ _ _ _ _ _ _ _ _ _ _ _ _ _ _ _ _ _ _ _ _ _ _ _ _ _ _ _ _ _ _ _ _ _ _ _ _ _ _ _ _ _ _ _ _ _ _ _ _ _ _ _ _ _ _ _ _ _ _ _ _ _ _ _ _ _ _ _ _ _ _ _ _ _ _ _ _ _ _ _ _ _ _ _ _ _ _ _ _ _ _ _ _ _ _ _ _ _ _ _ _ _ _ _ _ _ _ _ _ _ _ _ _ _ _ _ _ _ _ _ _ _ _ _ _ _ _ _ _ _ _ _ _ _ _ _ _ _ _ _ _ _ _ _ _ _ _ _ _ _ _ _ _ _ _ _ _ _ _ _ _ _ _ _ _ _ _ _ _ _ _ _ _ _ _ _ _ _ _ _ _ _ _ _ _ _ _ _ _ _ _ _ _ _ _ _ _ _ _ _ _ _ _ _ _ _ _ _ _ _ _ _ _ _ _ _ _ _ _ _ _ _ _ _ _ _ _ _ _ _ _ _ _ _ _ _ _ _ _ _ _ _ _ _ _ _ _ _ _ _ _ _ _ _ _ _ _ _ _ _ _ _ _ _ _ _ _ _ _ _ _ _ _ _ _ _ _ _ _ _ _ _ _ _ _ _ _ _ _ _ _ _ _ _ _ _ _ _ _ _ _ _ _ _ _ _ _ _ _ _ _ _ _ _ _ _ _ _ _ _ _ _ _ _ _ _ _ _ _ _ _ _ _ _ _ _ _ _ ⟨(by repeat (first | (with_reducible first | exact HB.out | apply below_alloc | apply pw_below_drewN | apply below_drew1) | exact HB.out))⟩ _ _ _ (by assumption) (by assumption)
    | true => exact partD_yes first n most sum w w1 _ _ _ _ _ _ _ _ _ _ _ _ _ _ _ _ _ _ _ _ _ _ _ _ _ _ _ _ _ _ _ _ _ _ _ _ _ _ _ _ _ _ _ _ _ _ _ _ _ _ _ _ _ _ _ _ _ _ _ _ _ _ _ _ _ _ _ _ _ _ _ _ _ _ _ _ _ _ _ _ _ _ _ _ _ _ _ _ _ _ _ _ _ _ _ _ _ _ _ _ _ _ _ _ _ _ _ _ _ _ _ _ _ _ _ _ _ _ _ _ _ _ _ _ _ _ _ _ _ _ _ _ _ _ _ _ _ _ _ _ _ _ _ _ _ _ _ _ _ _ _ _ _ _ _ _ _ _ _ _ _ _ _ _ _ _ _ _ _ _ _ _ _ _ _ _ _ _ _ _ _ _ _ _ _ _ _ _ _ _ _ _ _ _ _ _ _ _ _ _ _ _ _ _ _ _ _ _ _ _ _ _ _ _ _ _ _ _ _ _ _ _ _ _ _ _ _ _ _ _ _ _ _ _ _ _ _ _ _ _ _ _ _ _ _ _ _ _ _ _ _ _ _ _ _ _ _ _ _ _ _ _ _ _ _ _ _ _ _ _ _ _ _ _ _ _ _ _ _ _ _ _ _ _ _ _ _ _ _ _ _ _ _ _ _ _ _ _ _ _ _ _ _ _ _ _ _ _ _ _ _ _ _ _ _ _ _ _ _ _ _ _ _ _ _ _ _ _ _ _ _ _ _ _ _ _ _ _ _ _ _ _ _ _ _ _ _ _ _ _ _ _ _ _ HB1 ⟨HF2.out rfl⟩ ⟨(by repeat (first | (with_reducible first | exact HB.out | apply below_alloc | apply pw_below_drewN | apply below_drew1) | exact HB.out))⟩ _ _ _ (by assumption) (by assumption)
  case rest =>
  clear HB
  have HB := hcut
  clear hcut
  go_wp2_with fail
  go_ret
  exact ⟨rfl, below_step HB1.out (by repeat (first | (with_reducible first | exact HB.out | apply below_alloc | apply pw_below_drewN | apply below_drew1) | exact HB.out))⟩
end Go.Proofs.YtleacijhpkogpabDoor.RBig
/- The law on rows before (FnRowsBeforeOfAll): the walk of laws.FnRowsBeforeOfAll, over contracts of all that it calls, and over what is known of their answers. -/
namespace Go.Proofs.YtleacijhpkogpabDoor.RBig
open Go.RowKit Go.Proofs.YtleacijhpkogpabDoorW.PrintWords Go.Proofs.YtleacijhpkogpabDoorW.PrintLast Go.Proofs.YtleacijhpkogpabDoorW.PrintMore Go.Proofs.YtleacijhpkogpabDoor.Part
set_option linter.unusedVariables false
set_option linter.unusedSimpArgs false

set_option maxHeartbeats 8000000 in
set_option maxRecDepth 100000 in
theorem walk (row first : ByteArray) (n m ticks k most sum x5 x6 : Int) (b1 b2 b5 b6 hb1 : Bool) (g : List ByteArray) (w : World) (hs : row.size ≤ 1048576) (hg : g.length ≤ 1048576)
    (hRI : ∀ W, Below w.heap.size w W → Calls Tryd.prog 17 #[.string row] W fun e w' => ∃ v, e = .returned (.tuple #[v, .bool b1]) ∧ Kd.R Kd.string 9 w' W.heap.size (fun _ => True) v g ∧ Below W.heap.size W w')
    (hRS : ∀ W, Below w.heap.size w W → Calls Tryd.prog 18 #[.string row] W fun e w' => ∃ v, e = .returned (.tuple #[v, .bool b1]) ∧ Kd.R Kd.string 9 w' W.heap.size (fun _ => True) v g ∧ Below W.heap.size W w')
    (hHI : ∀ W, Below w.heap.size w W → Calls Tryd.prog 19 #[.string row] W fun e w' => e = .returned (.tuple #[.bool hb1, .bool b1]) ∧ Below W.heap.size W w')
    (hHS : ∀ W, Below w.heap.size w W → Calls Tryd.prog 20 #[.string row] W fun e w' => e = .returned (.tuple #[.bool hb1, .bool b1]) ∧ Below W.heap.size W w')
    (hF1 : b1 = true → hb1 = decide (0 < g.length) ∧ ∃ st : Bool, (∀ W, Below w.heap.size w W → Calls Tryd.prog 22 #[.string row] W fun e w' => e = .returned (.tuple #[.bool st, .bool true]) ∧ Below W.heap.size W w') ∧ (st = true → row ∈ g) ∧
      ∀ i : Nat, i < g.length → (∀ W, Below w.heap.size w W → Calls Tryd.prog 24 #[.string (rdOf ByteArray.empty g (i : Int))] W fun e w' => e = .returned (.tuple #[.string row, .bool true]) ∧ Below W.heap.size W w') ∧ (0 < i → Go.Op.bytesLess (rdOf ByteArray.empty g (((i - 1 : Nat)) : Int)).toList (rdOf ByteArray.empty g (i : Int)).toList = true))
    (hi0 : ∀ W, Below w.heap.size w W → Calls Tryd.prog 25 #[.int .i64 n] W fun e w' => e = .returned (.tuple #[.int .i64 most, .bool b2]) ∧ Below W.heap.size W w')
    (hs0 : ∀ W, Below w.heap.size w W → Calls Tryd.prog 26 #[.int .i64 n] W fun e w' => e = .returned (.tuple #[.int .i64 most, .bool b2]) ∧ Below W.heap.size W w')
    (hi1 : ∀ W, Below w.heap.size w W → Calls Tryd.prog 27 #[.int .i64 n] W fun e w' => e = .returned (.tuple #[.string first, .bool b2]) ∧ Below W.heap.size W w')
    (hs1 : ∀ W, Below w.heap.size w W → Calls Tryd.prog 28 #[.int .i64 n] W fun e w' => e = .returned (.tuple #[.string first, .bool b2]) ∧ Below W.heap.size W w')
    (hi2 : ∀ W, Below w.heap.size w W → Calls Tryd.prog 29 #[.int .i64 n] W fun e w' => e = .returned (.tuple #[.int .i64 sum, .bool b2]) ∧ Below W.heap.size W w')
    (hs2 : ∀ W, Below w.heap.size w W → Calls Tryd.prog 30 #[.int .i64 n] W fun e w' => e = .returned (.tuple #[.int .i64 sum, .bool b2]) ∧ Below W.heap.size W w')
    (hi3 : ∀ W, Below w.heap.size w W → Calls Tryd.prog 31 #[.int .i64 m, .int .i64 ticks] W fun e w' => e = .returned (.tuple #[.int .i64 x5, .bool b5]) ∧ Below W.heap.size W w')
    (hs3 : ∀ W, Below w.heap.size w W → Calls Tryd.prog 32 #[.int .i64 m, .int .i64 ticks] W fun e w' => e = .returned (.tuple #[.int .i64 x5, .bool b5]) ∧ Below W.heap.size W w')
    (hi4 : ∀ W, Below w.heap.size w W → Calls Tryd.prog 33 #[.int .i64 k] W fun e w' => e = .returned (.tuple #[.int .i64 x6, .bool b6]) ∧ Below W.heap.size W w')
    (hs4 : ∀ W, Below w.heap.size w W → Calls Tryd.prog 34 #[.int .i64 k] W fun e w' => e = .returned (.tuple #[.int .i64 x6, .bool b6]) ∧ Below W.heap.size W w')
    (hF6 : b6 = true → x6 = wrap64 (k + 1))
    (hF2 : b2 = true → ∃ (N : Nat) (c : Nat → Nat) (C W : Nat → Nat), n = (N : Int) ∧ 1 ≤ N ∧ N ≤ 12 ∧ (∀ W, Below w.heap.size w W → Calls Tryd.prog 35 #[.string first] W fun e w' => e = .returned (.tuple #[.int .i64 most, .bool true]) ∧ Below W.heap.size W w') ∧
      (∀ t : Nat, t ≤ N → ∀ W, Below w.heap.size w W → Calls Tryd.prog 31 #[.int .i64 (N : Int), .int .i64 (t : Int)] W fun e w' => e = .returned (.tuple #[.int .i64 (c t : Int), .bool true]) ∧ Below W.heap.size W w') ∧
      (∀ t : Nat, t ≤ N → (most < (t : Int) → c t = 0) ∧ ((t : Int) = most → 1 ≤ c t) ∧ c t ≤ 4096) ∧ c 0 = N + 1 ∧ first.size = N ∧ most ≤ (N : Int) ∧
      C 0 = 0 ∧ (∀ t, C (t + 1) = C t + c t) ∧ W 0 = 0 ∧ (∀ t, W (t + 1) = W t + t * c t) ∧ C (N + 1) = 2 ^ N ∧ (W (N + 1) : Int) = sum ∧ ∀ t, t ≤ N + 1 → C t ≤ 100000000 ∧ W t ≤ 100000000) :
    Calls Tryd.prog 6 #[.string row, .int .i64 n, .int .i64 m, .int .i64 ticks, .int .i64 k] w fun e w' => e = .returned (.bool true) ∧ Below w.heap.size w w' := by
  have HRI := Aside0.mk hRI
  have HRS := Aside0.mk hRS
  have HHI := Aside0.mk hHI
  have HHS := Aside0.mk hHS
  have HI0 := Aside0.mk hi0
  have HS0 := Aside0.mk hs0
  have HI1 := Aside0.mk hi1
  have HS1 := Aside0.mk hs1
  have HI2 := Aside0.mk hi2
  have HS2 := Aside0.mk hs2
  have HI3 := Aside0.mk hi3
  have HS3 := Aside0.mk hs3
  have HI4 := Aside0.mk hi4
  have HS4 := Aside0.mk hs4
  have HF1 := Aside0.mk hF1
  have HF2 := Aside0.mk hF2
  have HF6 := Aside0.mk hF6
  have HG := Aside0.mk hg
  have HBW := Aside0.mk (Below.refl w.heap.size w)
  clear hRI hRS hHI hHS hF1 hF2 hF6 hi0 hs0 hi1 hs1 hi2 hs2 hi3 hs3 hi4 hs4
  go_enter Tryd.func6, Tryd.ntmps6
  go_wp2_with fail
  refine (HRI.out _ (by repeat (first | exact HBW.out | apply pw_below_drewN | apply below_drew1))).mono ?_
  rintro e w1 ⟨v1, rfl, ho, hb⟩
  obtain ⟨A1, c1, rfl, hlc1, hC1⟩ := Kd.R_reads ho
  have HB1 := Aside0.mk (below_step (by repeat (first | exact HBW.out | apply pw_below_drewN | apply below_drew1)) hb)
  have HC := Aside0.mk hC1
  have HLC := Aside0.mk hlc1
  have HB := Aside0.mk (Below.refl w1.heap.size w1)
  clear ho hb hC1 hlc1 HBW HRI
  go_wp2_with fail
  refine (HRS.out _ (below_step HB1.out (by repeat (first | (with_reducible first | exact HB.out | apply below_alloc | apply pw_below_drewN | apply below_drew1) | exact HB.out)))).mono ?_
  rintro e w2 ⟨v2, rfl, ho, hb⟩
  obtain ⟨A2, c2, rfl, hlc2, hC2⟩ := Kd.R_reads ho
  have HC2 := Aside0.mk hC2
  have HLC2 := Aside0.mk hlc2
  have HB2 := Aside0.mk (Below.refl w2.heap.size w2)
  have HBn := Aside0.mk (below_step (by repeat (first | (with_reducible first | exact HB.out | apply below_alloc | apply pw_below_drewN | apply below_drew1) | exact HB.out)) hb); clear hb HB; have HB := HBn; clear HBn; try dsimp only
  clear ho hC2 hlc2 HRS
  have HT := Aside0.mk (fun W (h1 : Below w1.heap.size w1 W) (h2 : Below w2.heap.size w2 W) => RLawH.mTexts_same A1 c1 A2 c2 g HG.out W (Kd.C_below HC.out h1) HLC.out (Kd.C_below HC2.out h2) HLC2.out)
  clear HC2 HLC2
  go_upto_if 99 with (first | (go_at_call 19; with_reducible refine (HHI.out _ (below_step HB1.out (by repeat (first | (with_reducible first | exact HB.out | apply below_alloc | apply pw_below_drewN | apply below_drew1) | exact HB.out)))).mono ?_; rintro e w3 ⟨rfl, hb⟩; have HB2n := Aside0.mk (below_step (by repeat (first | (with_reducible first | exact HB2.out | apply below_alloc | apply pw_below_drewN | apply below_drew1) | exact HB2.out)) hb); clear HB2; have HB2 := HB2n; clear HB2n; have HBn := Aside0.mk (below_step (by repeat (first | (with_reducible first | exact HB.out | apply below_alloc | apply pw_below_drewN | apply below_drew1) | exact HB.out)) hb); clear hb HB; have HB := HBn; clear HBn; try dsimp only) | (go_at_call 20; with_reducible refine (HHS.out _ (below_step HB1.out (by repeat (first | (with_reducible first | exact HB.out | apply below_alloc | apply pw_below_drewN | apply below_drew1) | exact HB.out)))).mono ?_; rintro e w4 ⟨rfl, hb⟩; have HB2n := Aside0.mk (below_step (by repeat (first | (with_reducible first | exact HB2.out | apply below_alloc | apply pw_below_drewN | apply below_drew1) | exact HB2.out)) hb); clear HB2; have HB2 := HB2n; clear HB2n; have HBn := Aside0.mk (below_step (by repeat (first | (with_reducible first | exact HB.out | apply below_alloc | apply pw_below_drewN | apply below_drew1) | exact HB.out)) hb); clear hb HB; have HB := HBn; clear HBn; try dsimp only) | (go_at_call 21; with_reducible refine (HT.out _ (by repeat (first | (with_reducible first | exact HB.out | apply below_alloc | apply pw_below_drewN | apply below_drew1) | exact HB.out)) (by repeat (first | (with_reducible first | exact HB2.out | apply below_alloc | apply pw_below_drewN | apply below_drew1) | exact HB2.out))).mono ?_; rintro e w' ⟨rfl, ⟨nd, rfl⟩⟩; try dsimp only))
  go_cut [] from 100 to 155 (fun wx => Aside0 (Below w1.heap.size w1 wx))
  case first =>
    cases b1 with
    | false => exact partA_no row g A1 c1 hb1 w w1 _ _ _ _ _ _ _ _ _ _ _ _ _ _ _ _ _ _ _ _ _ _ _ _ _ _ _ _ _ _ _ _ _ _ _ _ _ _ _ _ _ _ _ _ _ _ _ _ _ _ _ _ _ _ _ _ _ _ _ _ _ _ _ _ _ _ _ _ _ _ _ _ _ _ _ _ _ _ _ _ _ _ _ _ _ _ _ _ _ _ _ _ _ _ _ _ _ _ _ _ _ _ _ _ _ _ _ _ _ _ _ _ _ _ _ _ _ _ _ _ _ _ _ _ _ _ _ _ _ _ _ _ _ _ _ _ _ _ _ _ _ _ _ _ _ _ _ _ _ _ _ _ _ _ _ _ _ _ _ _ _ _ _ _ _ _ _ _ _ _ _ _ _ _ _ _ _ _ _ _ _ _ _ _ _ _ _ _ _ _ _ _ _ _ _ _ _ _ _ _ _ _ _ _ _ _ _ _ _ _ _ _ _ _ _ _ _ _ _ _ _ _ _ _ _ _ _ _ _ _ _ _ _ _ _ _ _ _ _ _ _ _ _ _ _ _ _ _ _ _ _ _ _ _ _ _ _ _ _ _ _ _ _ _ _ _ _ _ _ _ _ _ _ _ _ _ _ _ _ _ _ _ _ _ _ _ _ _ _ _ _ _ _ _ _ _ _ _ _ _ _ _ _ _ _ _ _ _ _ _ _ _ _ _ _ _ _ _ _ _ _ _ _ _ _ _ _ _ _ _ _ _ _ _ _ _ _ _ _ _ _ _ _ _ _ _ _ _ _ _ _ _ _ _ _ ⟨(by repeat (first | (with_reducible first | exact HB.out | apply below_alloc | apply pw_below_drewN | apply below_drew1) | exact HB.out))⟩ _ _ _ (by assumption) (by assumption)
    | true => exact partA_yes row g A1 c1 hb1 w w1 _ _ _ _ _ _ _ _ _ _ _ _ _ _ _ _ _ _ _ _ _ _ _ _ _ _ _ _ _ _ _ _ _ _ _ _ _ _ _ _ _ _ _ _ _ _ _ _ _ _ _ _ _ _ _ _ _ _ _ _ _ _ _ _ _ _ _ _ _ _ _ _ _ _ _ _ _ _ _ _ _ _ _ _ _ _ _ _ _ _ _ _ _ _ _ _ _ _ _ _ _ _ _ _ _ _ _ _ _ _ _ _ _ _ _ _ _ _ _ _ _ _ _ _ _ _ _ _ _ _ _ _ _ _ _ _ _ _ _ _ _ _ _ _ _ _ _ _ _ _ _ _ _ _ _ _ _ _ _ _ _ _ _ _ _ _ _ _ _ _ _ _ _ _ _ _ _ _ _ _ _ _ _ _ _ _ _ _ _ _ _ _ _ _ _ _ _ _ _ _ _ _ _ _ _ _ _ _ _ _ _ _ _ _ _ _ _ _ _ _ _ _ _ _ _ _ _ _ _ _ _ _ _ _ _ _ _ _ _ _ _ _ _ _ _ _ _ _ _ _ _ _ _ _ _ _ _ _ _ _ _ _ _ _ _ _ _ _ _ _ _ _ _ _ _ _ _ _ _ _ _ _ _ _ _ _ _ _ _ _ _ _ _ _ _ _ _ _ _ _ _ _ _ _ _ _ _ _ _ _ _ _ _ _ _ _ _ _ _ _ _ _ _ _ _ _ _ _ _ _ _ _ _ _ _ _ _ _ _ _ _ _ _ _ _ _ _ _ _ _ _ _ _ _ _ HB1 HC HLC HG ⟨HF1.out rfl⟩ ⟨(by repeat (first | (with_reducible first | exact HB.out | apply below_alloc | apply pw_below_drewN | apply below_drew1) | exact HB.out))⟩ _ _ _ (by assumption) (by assumption)
  case rest =>
  clear HB HB2
  have HB := hcut
  clear hcut
  refine (by assumption : ∀ (a : Act) (w : World), Code.wp _ _ _ a w → _) _ _ ?_
  exact rest1 first n m ticks k most sum x5 x6 b2 b5 b6 w w1 _ _ _ _ _ _ _ _ _ _ _ _ _ _ _ _ _ _ _ _ _ _ _ _ _ _ _ _ _ _ _ _ _ _ _ _ _ _ _ _ _ _ _ _ _ _ _ _ _ _ _ _ _ _ _ _ _ _ _ _ _ _ _ _ _ _ _ _ _ _ _ _ _ _ _ _ _ _ _ _ _ _ _ _ _ _ _ _ _ _ _ _ _ _ _ _ _ _ _ _ _ _ _ _ _ _ _ _ _ _ _ _ _ _ _ _ _ _ _ _ _ _ _ _ _ _ _ _ _ _ _ _ _ _ _ _ _ _ _ _ _ _ _ _ _ _ _ _ _ _ _ _ _ _ _ _ _ _ _ _ _ _ _ _ _ _ _ _ _ _ _ _ _ _ _ _ _ _ _ _ _ _ _ _ _ _ _ _ _ _ _ _ _ _ _ _ _ _ _ _ _ _ _ _ _ _ _ _ _ _ _ _ _ _ _ _ _ _ _ _ _ _ _ _ _ _ _ _ _ _ _ _ _ _ _ _ _ _ _ _ _ _ _ _ _ _ _ _ _ _ _ _ _ _ _ _ _ _ _ _ _ _ _ _ _ _ _ _ _ _ _ _ _ _ _ _ _ _ _ _ _ _ _ _ _ _ _ _ _ _ _ _ _ _ _ _ _ _ _ _ _ _ _ _ _ _ _ _ _ _ _ _ _ _ _ _ _ _ _ _ _ _ _ _ _ _ _ _ _ _ _ _ _ _ _ _ _ _ _ _ _ _ _ _ _ _ _ _ _ _ _ _ _ _ _ _ HB1 HI0 HS0 HI1 HS1 HI2 HS2 HI3 HS3 HI4 HS4 HF6 HF2 HB
end Go.Proofs.YtleacijhpkogpabDoor.RBig
