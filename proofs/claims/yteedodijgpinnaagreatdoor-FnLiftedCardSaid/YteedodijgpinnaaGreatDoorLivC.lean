/-
  A PART OF THE PROOF of LtI (texts LivC): the claim itself stands in the last text. No conditions beside those of the given row.
-/
import Derived.Test.YteedodijgpinnaaGreatDoorGeoA
set_option linter.unusedVariables false
set_option linter.unnecessarySimpa false
set_option linter.unusedSimpArgs false
namespace Go.Abs
open Go.Proofs
set_option maxRecDepth 100000
def a61 : Ann := { head := ptOf [(2, [5, 6, 7], [])], shut := true }
noncomputable def e61 : Env := VL tryT [] [(18, qOkO)]
theorem e61_ok : EnvOK NN Tryz.prog e61 := VL_ok (TabOk.of tryT_ok) (gamC (orc83 NN) Tryz.call18 (gamN _ _))
noncomputable def q61 : Orc := cR e61 a61 20 Tryz.f61
theorem q61_ok : OrcOK NN Tryz.prog 61 q61 := cR_ok e61_ok rfl Tryz.func61 (by kernel_rfl)
def a136 : Ann := { head := ptOf [], shut := true }
noncomputable def e136 : Env := VL tryT [] [(61, q61)]
theorem e136_ok : EnvOK NN Tryz.prog e136 := VL_ok (TabOk.of tryT_ok) (gamC q61_ok Tryz.call61 (gamN _ _))
noncomputable def q136 : Orc := cR e136 a136 20 Tryz.f136
theorem q136_ok : OrcOK NN Tryz.prog 136 q136 := cR_ok e136_ok rfl Tryz.func136 (by kernel_rfl)
def a156 : Ann := { head := ptOf [(2, [5, 6, 7], [])], shut := true }
noncomputable def e156 : Env := VL tryT [] [(136, q136)]
theorem e156_ok : EnvOK NN Tryz.prog e156 := VL_ok (TabOk.of tryT_ok) (gamC q136_ok Tryz.call136 (gamN _ _))
noncomputable def q156 : Orc := cR e156 a156 20 Tryz.f156
theorem q156_ok : OrcOK NN Tryz.prog 156 q156 := cR_ok e156_ok rfl Tryz.func156 (by kernel_rfl)
def a243 : Ann := { head := ptOf [(3, [3, 7, 8, 9], [])], shut := true }
noncomputable def e243 : Env := VL tryT [] [(138, vO 0)]
theorem e243_ok : EnvOK NN Tryz.prog e243 := VL_ok (TabOk.of tryT_ok) (gamC orc135 Tryz.call138 (gamN _ _))
noncomputable def q243 : Orc := cR e243 a243 20 Tryz.f243
theorem q243_ok : OrcOK NN Tryz.prog 243 q243 := cR_ok e243_ok rfl Tryz.func243 (by kernel_rfl)
def a161 : Ann := { head := ptOf [(3, [3, 8, 9, 10], [])], shut := true }
noncomputable def e161 : Env := VL tryT [] [(243, q243)]
theorem e161_ok : EnvOK NN Tryz.prog e161 := VL_ok (TabOk.of tryT_ok) (gamC q243_ok Tryz.call243 (gamN _ _))
noncomputable def q161 : Orc := cR e161 a161 20 Tryz.f161
theorem q161_ok : OrcOK NN Tryz.prog 161 q161 := cR_ok e161_ok rfl Tryz.func161 (by kernel_rfl)
def a267 : Ann := { head := ptOf [], shut := true }
noncomputable def e267 : Env := VL tryT [] [(69, rat2 (fun p q => szQ p && szQ q) fun p q => one (.int .i64 (cmpQ p q)))]
theorem e267_ok : EnvOK NN Tryz.prog e267 := VL_ok (TabOk.of tryT_ok) (gamC orc58 Tryz.call69 (gamN _ _))
noncomputable def q267 : Orc := cR e267 a267 20 Tryz.f267
theorem q267_ok : OrcOK NN Tryz.prog 267 q267 := cR_ok e267_ok rfl Tryz.func267 (by kernel_rfl)
def a224 : Ann := { head := ptOf [], shut := true }
noncomputable def e224 : Env := VL tryT [] [(267, q267), (69, rat2 (fun p q => szQ p && szQ q) fun p q => one (.int .i64 (cmpQ p q)))]
theorem e224_ok : EnvOK NN Tryz.prog e224 := VL_ok (TabOk.of tryT_ok) (gamC q267_ok Tryz.call267 (gamC orc58 Tryz.call69 (gamN _ _)))
noncomputable def q224 : Orc := cR e224 a224 20 Tryz.f224
theorem q224_ok : OrcOK NN Tryz.prog 224 q224 := cR_ok e224_ok rfl Tryz.func224 (by kernel_rfl)
def a227 : Ann := { head := ptOf [], shut := true }
noncomputable def e227 : Env := VL tryT [] [(139, pt2 0 fun a b c d => one (.int .i64 (cmpP a b c d)))]
theorem e227_ok : EnvOK NN Tryz.prog e227 := VL_ok (TabOk.of tryT_ok) (gamC orc98 Tryz.call139 (gamN _ _))
noncomputable def q227 : Orc := cR e227 a227 20 Tryz.f227
theorem q227_ok : OrcOK NN Tryz.prog 227 q227 := cR_ok e227_ok rfl Tryz.func227 (by kernel_rfl)
def a148 : Ann := { head := ptOf [], shut := true }
noncomputable def e148 : Env := VL tryT [] [(226, pt2 0 fun a b c d => pS 0 (a - c) (b - d))]
theorem e148_ok : EnvOK NN Tryz.prog e148 := VL_ok (TabOk.of tryT_ok) (gamC orc36 Tryz.call226 (gamN _ _))
noncomputable def q148 : Orc := cR e148 a148 20 Tryz.f148
theorem q148_ok : OrcOK NN Tryz.prog 148 q148 := cR_ok e148_ok rfl Tryz.func148 (by kernel_rfl)
def a225 : Ann := { head := ptOf [], shut := true }
noncomputable def e225 : Env := VL tryT [] [(73, rat2 (fun p q => szQ p && szQ q) fun p q => nm 0 (p * q)), (70, rat2 (fun p q => szQ p && szQ q) fun p q => nm 0 (p - q))]
theorem e225_ok : EnvOK NN Tryz.prog e225 := VL_ok (TabOk.of tryT_ok) (gamC orc60 Tryz.call73 (gamC orc37 Tryz.call70 (gamN _ _)))
noncomputable def q225 : Orc := cR e225 a225 20 Tryz.f225
theorem q225_ok : OrcOK NN Tryz.prog 225 q225 := cR_ok e225_ok rfl Tryz.func225 (by kernel_rfl)
def a153 : Ann := { head := ptOf [], shut := true }
noncomputable def e153 : Env := VL tryT [] [(226, pt2 0 fun a b c d => pS 0 (a - c) (b - d)), (225, q225), (165, rat1 szQ fun q => one (.int .i64 (Int.sign q.num)))]
theorem e153_ok : EnvOK NN Tryz.prog e153 := VL_ok (TabOk.of tryT_ok) (gamC orc36 Tryz.call226 (gamC q225_ok Tryz.call225 (gamC orc88 Tryz.call165 (gamN _ _))))
noncomputable def q153 : Orc := cR e153 a153 20 Tryz.f153
theorem q153_ok : OrcOK NN Tryz.prog 153 q153 := cR_ok e153_ok rfl Tryz.func153 (by kernel_rfl)
def a303 : Ann := { head := ptOf [], shut := true }
noncomputable def e303 : Env := VL tryT [] [(63, rat2 (fun p q => szQ p && szQ q) fun p q => nm 0 (p + q)), (73, rat2 (fun p q => szQ p && szQ q) fun p q => nm 0 (p * q))]
theorem e303_ok : EnvOK NN Tryz.prog e303 := VL_ok (TabOk.of tryT_ok) (gamC orc59 Tryz.call63 (gamC orc60 Tryz.call73 (gamN _ _)))
noncomputable def q303 : Orc := cR e303 a303 20 Tryz.f303
theorem q303_ok : OrcOK NN Tryz.prog 303 q303 := cR_ok e303_ok rfl Tryz.func303 (by kernel_rfl)
def a278 : Ann := { head := ptOf [], shut := true }
noncomputable def e278 : Env := VL tryT [] [(303, q303)]
theorem e278_ok : EnvOK NN Tryz.prog e278 := VL_ok (TabOk.of tryT_ok) (gamC q303_ok Tryz.call303 (gamN _ _))
noncomputable def q278 : Orc := cR e278 a278 20 Tryz.f278
theorem q278_ok : OrcOK NN Tryz.prog 278 q278 := cR_ok e278_ok rfl Tryz.func278 (by kernel_rfl)
def a242 : Ann := { head := ptOf [], shut := true }
noncomputable def e242 : Env := VL tryT [] [(69, rat2 (fun p q => szQ p && szQ q) fun p q => one (.int .i64 (cmpQ p q)))]
theorem e242_ok : EnvOK NN Tryz.prog e242 := VL_ok (TabOk.of tryT_ok) (gamC orc58 Tryz.call69 (gamN _ _))
noncomputable def q242 : Orc := cR e242 a242 20 Tryz.f242
theorem q242_ok : OrcOK NN Tryz.prog 242 q242 := cR_ok e242_ok rfl Tryz.func242 (by kernel_rfl)
def a132 : Ann := { head := ptOf [], shut := true }
noncomputable def e132 : Env := VL tryT [] [(224, q224), (148, q148), (225, q225), (226, pt2 0 fun a b c d => pS 0 (a - c) (b - d)), (165, rat1 szQ fun q => one (.int .i64 (Int.sign q.num))), (227, q227), (139, pt2 0 fun a b c d => one (.int .i64 (cmpP a b c d))), (74, rat2 (fun p q => szQ p && szQ q && decide (q ≠ 0)) fun p q => nm 0 (p / q)), (80, intO 0), (69, rat2 (fun p q => szQ p && szQ q) fun p q => one (.int .i64 (cmpQ p q))), (149, pt1 0 fun a b c => pS 0 (a * c) (b * c)), (147, pt2 0 fun a b c d => pS 0 (a + c) (b + d))]
theorem e132_ok : EnvOK NN Tryz.prog e132 := VL_ok (TabOk.of tryT_ok) (gamC q224_ok Tryz.call224 (gamC q148_ok Tryz.call148 (gamC q225_ok Tryz.call225 (gamC orc36 Tryz.call226 (gamC orc88 Tryz.call165 (gamC q227_ok Tryz.call227 (gamC orc98 Tryz.call139 (gamC orc90 Tryz.call74 (gamC orc57 Tryz.call80 (gamC orc58 Tryz.call69 (gamC orc85 Tryz.call149 (gamC orc89 Tryz.call147 (gamN _ _)))))))))))))
noncomputable def q132 : Orc := cR e132 a132 20 Tryz.f132
theorem q132_ok : OrcOK NN Tryz.prog 132 q132 := cR_ok e132_ok rfl Tryz.func132 (by kernel_rfl)
def a239 : Ann := { head := ptOf [(2, [0, 1, 5], [])], shut := true }
noncomputable def e239 : Env := VL tryT [] [(139, pt2 0 fun a b c d => one (.int .i64 (cmpP a b c d)))]
theorem e239_ok : EnvOK NN Tryz.prog e239 := VL_ok (TabOk.of tryT_ok) (gamC orc98 Tryz.call139 (gamN _ _))
noncomputable def q239 : Orc := cR e239 a239 20 Tryz.f239
theorem q239_ok : OrcOK NN Tryz.prog 239 q239 := cR_ok e239_ok rfl Tryz.func239 (by kernel_rfl)
def a268 : Ann := { head := ptOf [], shut := true }
noncomputable def e268 : Env := VL tryT [] [(287, rat1 keyG keyF)]
theorem e268_ok : EnvOK NN Tryz.prog e268 := VL_ok (TabOk.of tryT_ok) (gamC q287_ok Tryz.call287 (gamN _ _))
noncomputable def q268 : Orc := cR e268 a268 20 Tryz.f268
theorem q268_ok : OrcOK NN Tryz.prog 268 q268 := cR_ok e268_ok rfl Tryz.func268 (by kernel_rfl)
def a288 : Ann := { head := ptOf [], shut := true }
noncomputable def e288 : Env := VL tryT [] [(225, q225), (165, rat1 szQ fun q => one (.int .i64 (Int.sign q.num))), (233, pt2 0 fun a b c d => nm 0 (a * c + b * d))]
theorem e288_ok : EnvOK NN Tryz.prog e288 := VL_ok (TabOk.of tryT_ok) (gamC q225_ok Tryz.call225 (gamC orc88 Tryz.call165 (gamC orc87 Tryz.call233 (gamN _ _))))
noncomputable def q288 : Orc := cR e288 a288 20 Tryz.f288
theorem q288_ok : OrcOK NN Tryz.prog 288 q288 := cR_ok e288_ok rfl Tryz.func288 (by kernel_rfl)
def a269 : Ann := { head := ptOf [], shut := true }
noncomputable def e269 : Env := VL tryT [] [(225, q225), (165, rat1 szQ fun q => one (.int .i64 (Int.sign q.num))), (288, q288)]
theorem e269_ok : EnvOK NN Tryz.prog e269 := VL_ok (TabOk.of tryT_ok) (gamC q225_ok Tryz.call225 (gamC orc88 Tryz.call165 (gamC q288_ok Tryz.call288 (gamN _ _))))
noncomputable def q269 : Orc := cR e269 a269 20 Tryz.f269
theorem q269_ok : OrcOK NN Tryz.prog 269 q269 := cR_ok e269_ok rfl Tryz.func269 (by kernel_rfl)
def a160 : Ann := { head := ptOf [(6, [1, 5, 7, 11, 12, 13, 18, 19], []), (3, [1, 5, 11, 12, 13], [])], shut := true }
noncomputable def e160 : Env := VL tryT [] [(139, pt2 0 fun a b c d => one (.int .i64 (cmpP a b c d)))]
theorem e160_ok : EnvOK NN Tryz.prog e160 := VL_ok (TabOk.of tryT_ok) (gamC orc98 Tryz.call139 (gamN _ _))
noncomputable def q160 : Orc := cR e160 a160 20 Tryz.f160
theorem q160_ok : OrcOK NN Tryz.prog 160 q160 := cR_ok e160_ok rfl Tryz.func160 (by kernel_rfl)
def a281 : Ann := { head := ptOf [], shut := true }
noncomputable def e281 : Env := VL tryT [] []
theorem e281_ok : EnvOK NN Tryz.prog e281 := VL_ok (TabOk.of tryT_ok) (gamN _ _)
noncomputable def q281 : Orc := cR e281 a281 20 Tryz.f281
theorem q281_ok : OrcOK NN Tryz.prog 281 q281 := cR_ok e281_ok rfl Tryz.func281 (by kernel_rfl)
def a301 : Ann := { head := ptOf [], shut := true }
noncomputable def e301 : Env := VL tryT [] [(281, q281)]
theorem e301_ok : EnvOK NN Tryz.prog e301 := VL_ok (TabOk.of tryT_ok) (gamC q281_ok Tryz.call281 (gamN _ _))
noncomputable def q301 : Orc := cR e301 a301 20 Tryz.f301
theorem q301_ok : OrcOK NN Tryz.prog 301 q301 := cR_ok e301_ok rfl Tryz.func301 (by kernel_rfl)
def a275 : Ann := { head := ptOf [], shut := true }
noncomputable def e275 : Env := VL tryT [] [(69, rat2 (fun p q => szQ p && szQ q) fun p q => one (.int .i64 (cmpQ p q)))]
theorem e275_ok : EnvOK NN Tryz.prog e275 := VL_ok (TabOk.of tryT_ok) (gamC orc58 Tryz.call69 (gamN _ _))
noncomputable def q275 : Orc := cR e275 a275 20 Tryz.f275
theorem q275_ok : OrcOK NN Tryz.prog 275 q275 := cR_ok e275_ok rfl Tryz.func275 (by kernel_rfl)
def a300 : Ann := { head := ptOf [], shut := true }
noncomputable def e300 : Env := VL tryT [] [(275, q275)]
theorem e300_ok : EnvOK NN Tryz.prog e300 := VL_ok (TabOk.of tryT_ok) (gamC q275_ok Tryz.call275 (gamN _ _))
noncomputable def q300 : Orc := cR e300 a300 20 Tryz.f300
theorem q300_ok : OrcOK NN Tryz.prog 300 q300 := cR_ok e300_ok rfl Tryz.func300 (by kernel_rfl)
def a277 : Ann := { head := ptOf [], shut := true }
noncomputable def e277 : Env := VL tryT [] [(139, pt2 0 fun a b c d => one (.int .i64 (cmpP a b c d)))]
theorem e277_ok : EnvOK NN Tryz.prog e277 := VL_ok (TabOk.of tryT_ok) (gamC orc98 Tryz.call139 (gamN _ _))
noncomputable def q277 : Orc := cR e277 a277 20 Tryz.f277
theorem q277_ok : OrcOK NN Tryz.prog 277 q277 := cR_ok e277_ok rfl Tryz.func277 (by kernel_rfl)
def a238 : Ann := { head := ptOf [], shut := true }
noncomputable def e238 : Env := VL tryT [] [(239, q239)]
theorem e238_ok : EnvOK NN Tryz.prog e238 := VL_ok (TabOk.of tryT_ok) (gamC q239_ok Tryz.call239 (gamN _ _))
noncomputable def q238 : Orc := cR e238 a238 20 Tryz.f238
theorem q238_ok : OrcOK NN Tryz.prog 238 q238 := cR_ok e238_ok rfl Tryz.func238 (by kernel_rfl)
def a298 : Ann := { head := ptOf [(5, [1, 2, 3, 6, 7], []), (2, [1, 2, 3, 6], [])], shut := true }
noncomputable def e298 : Env := VL tryT [] [(300, q300), (277, q277), (238, q238)]
theorem e298_ok : EnvOK NN Tryz.prog e298 := VL_ok (TabOk.of tryT_ok) (gamC q300_ok Tryz.call300 (gamC q277_ok Tryz.call277 (gamC q238_ok Tryz.call238 (gamN _ _))))
noncomputable def q298 : Orc := cR e298 a298 20 Tryz.f298
theorem q298_ok : OrcOK NN Tryz.prog 298 q298 := cR_ok e298_ok rfl Tryz.func298 (by kernel_rfl)
def a302 : Ann := { head := ptOf [(3, [1, 2, 3, 4, 8, 9], [])], shut := true }
noncomputable def e302 : Env := VL tryT [] [(298, q298)]
theorem e302_ok : EnvOK NN Tryz.prog e302 := VL_ok (TabOk.of tryT_ok) (gamC q298_ok Tryz.call298 (gamN _ _))
noncomputable def q302 : Orc := cR e302 a302 20 Tryz.f302
theorem q302_ok : OrcOK NN Tryz.prog 302 q302 := cR_ok e302_ok rfl Tryz.func302 (by kernel_rfl)
def a272 : Ann := { head := ptOf [(10, [1, 2, 4, 5, 6], []), (8, [1, 2, 4], []), (3, [1, 2, 4, 5, 6], [])], shut := true }
noncomputable def e272 : Env := VL tryT [] [(298, q298)]
theorem e272_ok : EnvOK NN Tryz.prog e272 := VL_ok (TabOk.of tryT_ok) (gamC q298_ok Tryz.call298 (gamN _ _))
noncomputable def q272 : Orc := cR e272 a272 20 Tryz.f272
theorem q272_ok : OrcOK NN Tryz.prog 272 q272 := cR_ok e272_ok rfl Tryz.func272 (by kernel_rfl)
def a276 : Ann := { head := ptOf [], shut := true }
noncomputable def e276 : Env := VL tryT [] [(301, q301), (302, q302)]
theorem e276_ok : EnvOK NN Tryz.prog e276 := VL_ok (TabOk.of tryT_ok) (gamC q301_ok Tryz.call301 (gamC q302_ok Tryz.call302 (gamN _ _)))
noncomputable def q276 : Orc := cR e276 a276 20 Tryz.f276
theorem q276_ok : OrcOK NN Tryz.prog 276 q276 := cR_ok e276_ok rfl Tryz.func276 (by kernel_rfl)
def a237 : Ann := { head := ptOf [], shut := true }
noncomputable def e237 : Env := VL tryT [] [(272, q272)]
theorem e237_ok : EnvOK NN Tryz.prog e237 := VL_ok (TabOk.of tryT_ok) (gamC q272_ok Tryz.call272 (gamN _ _))
noncomputable def q237 : Orc := cR e237 a237 20 Tryz.f237
theorem q237_ok : OrcOK NN Tryz.prog 237 q237 := cR_ok e237_ok rfl Tryz.func237 (by kernel_rfl)
def a274 : Ann := { head := ptOf [(3, [3, 5, 10, 11], [])], shut := true }
noncomputable def e274 : Env := VL tryT [] [(237, q237)]
theorem e274_ok : EnvOK NN Tryz.prog e274 := VL_ok (TabOk.of tryT_ok) (gamC q237_ok Tryz.call237 (gamN _ _))
noncomputable def q274 : Orc := cR e274 a274 20 Tryz.f274
theorem q274_ok : OrcOK NN Tryz.prog 274 q274 := cR_ok e274_ok rfl Tryz.func274 (by kernel_rfl)
def a240 : Ann := { head := ptOf [(38, [4, 20, 21, 25, 26, 198, 199, 200], []), (32, [4, 20, 21, 198, 199, 200], []), (17, [0, 3, 4, 5, 12, 13, 14, 15], []), (13, [0, 3, 4, 5, 12, 13], []), (5, [0, 3, 4, 5, 36, 37, 38], [])], shut := true }
noncomputable def e240 : Env := VL tryT [194, 298] [(267, q267), (274, q274), (69, rat2 (fun p q => szQ p && szQ q) fun p q => one (.int .i64 (cmpQ p q))), (132, q132), (227, q227), (276, q276), (139, pt2 0 fun a b c d => one (.int .i64 (cmpP a b c d))), (268, q268)]
theorem e240_ok : EnvOK NN Tryz.prog e240 := VL_ok (TabOk.of tryT_ok) (gamC q267_ok Tryz.call267 (gamC q274_ok Tryz.call274 (gamC orc58 Tryz.call69 (gamC q132_ok Tryz.call132 (gamC q227_ok Tryz.call227 (gamC q276_ok Tryz.call276 (gamC orc98 Tryz.call139 (gamC q268_ok Tryz.call268 (gamN _ _)))))))))
noncomputable def q240 : Orc := cR e240 a240 20 Tryz.f240
theorem q240_ok : OrcOK NN Tryz.prog 240 q240 := cR_ok e240_ok rfl Tryz.func240 (by kernel_rfl)
def a241 : Ann := { head := ptOf [(8, [3, 4, 10, 11, 49, 50, 51], []), (4, [1, 2, 3, 4, 10, 11, 12], [])] }
noncomputable def e241 : Env := VL tryT [] [(278, q278), (242, q242), (69, rat2 (fun p q => szQ p && szQ q) fun p q => one (.int .i64 (cmpQ p q))), (267, q267), (70, rat2 (fun p q => szQ p && szQ q) fun p q => nm 0 (p - q)), (73, rat2 (fun p q => szQ p && szQ q) fun p q => nm 0 (p * q)), (63, rat2 (fun p q => szQ p && szQ q) fun p q => nm 0 (p + q)), (165, rat1 szQ fun q => one (.int .i64 (Int.sign q.num)))]
theorem e241_ok : EnvOK NN Tryz.prog e241 := VL_ok (TabOk.of tryT_ok) (gamC q278_ok Tryz.call278 (gamC q242_ok Tryz.call242 (gamC orc58 Tryz.call69 (gamC q267_ok Tryz.call267 (gamC orc37 Tryz.call70 (gamC orc60 Tryz.call73 (gamC orc59 Tryz.call63 (gamC orc88 Tryz.call165 (gamN _ _)))))))))
noncomputable def q241 : Orc := cR e241 a241 20 Tryz.f241
theorem q241_ok : OrcOK NN Tryz.prog 241 q241 := cR_ok e241_ok rfl Tryz.func241 (by kernel_rfl)
def a162 : Ann := { head := ptOf [], shut := true }
noncomputable def e162 : Env := VL tryT [] []
theorem e162_ok : EnvOK NN Tryz.prog e162 := VL_ok (TabOk.of tryT_ok) (gamN _ _)
noncomputable def q162 : Orc := cR e162 a162 20 Tryz.f162
theorem q162_ok : OrcOK NN Tryz.prog 162 q162 := cR_ok e162_ok rfl Tryz.func162 (by kernel_rfl)
def a159 : Ann := { head := ptOf [(8, [0, 1, 2, 7, 8, 9, 10, 12, 25, 26, 27, 38, 39], []), (4, [0, 1, 2, 7, 8, 9, 10, 25, 26, 27], [])], shut := true }
def a235 : Ann := { head := ptOf [(22, [0, 3, 7, 8, 10, 12, 13, 41, 42, 85, 86, 87], []), (16, [0, 3, 7, 8, 10, 11, 41, 42], []), (11, [0, 3, 7, 8, 41, 42], []), (3, [0, 3, 17, 18, 19], [])], shut := true }
noncomputable def e235 : Env := VL tryT [] [(268, q268), (226, pt2 0 fun a b c d => pS 0 (a - c) (b - d)), (148, q148), (269, q269)]
theorem e235_ok : EnvOK NN Tryz.prog e235 := VL_ok (TabOk.of tryT_ok) (gamC q268_ok Tryz.call268 (gamC orc36 Tryz.call226 (gamC q148_ok Tryz.call148 (gamC q269_ok Tryz.call269 (gamN _ _)))))
noncomputable def q235 : Orc := cR e235 a235 20 Tryz.f235
theorem q235_ok : OrcOK NN Tryz.prog 235 q235 := cR_ok e235_ok rfl Tryz.func235 (by kernel_rfl)
def a236 : Ann := { head := ptOf [(12, [4, 9, 62, 63], []), (4, [0, 3, 4, 16, 17], [])], shut := true }
noncomputable def e236 : Env := VL tryT [] [(153, q153), (226, pt2 0 fun a b c d => pS 0 (a - c) (b - d)), (233, pt2 0 fun a b c d => nm 0 (a * c + b * d)), (165, rat1 szQ fun q => one (.int .i64 (Int.sign q.num))), (139, pt2 0 fun a b c d => one (.int .i64 (cmpP a b c d))), (239, q239)]
theorem e236_ok : EnvOK NN Tryz.prog e236 := VL_ok (TabOk.of tryT_ok) (gamC q153_ok Tryz.call153 (gamC orc36 Tryz.call226 (gamC orc87 Tryz.call233 (gamC orc88 Tryz.call165 (gamC orc98 Tryz.call139 (gamC q239_ok Tryz.call239 (gamN _ _)))))))
noncomputable def q236 : Orc := cR e236 a236 20 Tryz.f236
theorem q236_ok : OrcOK NN Tryz.prog 236 q236 := cR_ok e236_ok rfl Tryz.func236 (by kernel_rfl)
def a158 : Ann := { head := ptOf [(3, [3, 8, 9, 10], [])], shut := true }
def a234 : Ann := { head := ptOf [(3, [3, 6, 7, 8], [])], shut := true }
noncomputable def e234 : Env := VL tryT [] []
theorem e234_ok : EnvOK NN Tryz.prog e234 := VL_ok (TabOk.of tryT_ok) (gamN _ _)
noncomputable def q234 : Orc := cR e234 a234 20 Tryz.f234
theorem q234_ok : OrcOK NN Tryz.prog 234 q234 := cR_ok e234_ok rfl Tryz.func234 (by kernel_rfl)
def a157 : Ann := { head := ptOf [(9, [4, 6, 9, 20, 21, 22, 27, 28, 29], []), (5, [4, 6, 20, 21, 22], [])], shut := true }
noncomputable def e157 : Env := VL tryT [] [(234, q234), (134, toV 0)]
theorem e157_ok : EnvOK NN Tryz.prog e157 := VL_ok (TabOk.of tryT_ok) (gamC q234_ok Tryz.call234 (gamC orc103 Tryz.call134 (gamN _ _)))
noncomputable def q157 : Orc := cR e157 a157 20 Tryz.f157
theorem q157_ok : OrcOK NN Tryz.prog 157 q157 := cR_ok e157_ok rfl Tryz.func157 (by kernel_rfl)
def a65 : Ann := { head := ptOf [(3, [0, 2, 4, 7, 8, 9], [])], shut := true }
def a244 : Ann := { head := ptOf [(9, [0, 1, 5, 13, 14, 32, 33], []), (4, [0, 1, 13, 14], [])], shut := true }
noncomputable def e244 : Env := VL tryT [] []
theorem e244_ok : EnvOK NN Tryz.prog e244 := VL_ok (TabOk.of tryT_ok) (gamN _ _)
noncomputable def q244 : Orc := cR e244 a244 20 Tryz.f244
theorem q244_ok : OrcOK NN Tryz.prog 244 q244 := cR_ok e244_ok rfl Tryz.func244 (by kernel_rfl)
def a163 : Ann := { head := ptOf [], shut := true }
def a164 : Ann := { head := ptOf [(6, [2, 3, 5, 8, 9, 10, 15, 16], []), (3, [2, 3, 8, 9, 10], [])], shut := true }
noncomputable def e164 : Env := VL tryT [] [(80, intO 0), (225, q225), (63, rat2 (fun p q => szQ p && szQ q) fun p q => nm 0 (p + q))]
theorem e164_ok : EnvOK NN Tryz.prog e164 := VL_ok (TabOk.of tryT_ok) (gamC orc57 Tryz.call80 (gamC q225_ok Tryz.call225 (gamC orc59 Tryz.call63 (gamN _ _))))
noncomputable def q164 : Orc := cR e164 a164 20 Tryz.f164
theorem q164_ok : OrcOK NN Tryz.prog 164 q164 := cR_ok e164_ok rfl Tryz.func164 (by kernel_rfl)
def a67 : Ann := { head := ptOf [], shut := true }
def a14 : Ann := { head := ptOf [], shut := true }
noncomputable def e14 : Env := VL tryT [] [(61, q61), (62, qO 0), (63, rat2 (fun p q => szQ p && szQ q) fun p q => nm 0 (p + q)), (64, rat1 (fun _ => true) tupQ)]
theorem e14_ok : EnvOK NN Tryz.prog e14 := VL_ok (TabOk.of tryT_ok) (gamC q61_ok Tryz.call61 (gamC orc86 Tryz.call62 (gamC orc59 Tryz.call63 (gamC orc41 Tryz.call64 (gamN _ _)))))
noncomputable def q14 : Orc := cR e14 a14 20 Tryz.f14
theorem q14_ok : OrcOK NN Tryz.prog 14 q14 := cR_ok e14_ok rfl Tryz.func14 (by kernel_rfl)
def a68 : Ann := { head := ptOf [], shut := true }
noncomputable def e68 : Env := VL tryT [] []
theorem e68_ok : EnvOK NN Tryz.prog e68 := VL_ok (TabOk.of tryT_ok) (gamN _ _)
noncomputable def q68 : Orc := cR e68 a68 20 Tryz.f68
theorem q68_ok : OrcOK NN Tryz.prog 68 q68 := cR_ok e68_ok rfl Tryz.func68 (by kernel_rfl)
def a66 : Ann := { head := ptOf [], shut := true }
noncomputable def e66 : Env := VL tryT [] [(68, q68)]
theorem e66_ok : EnvOK NN Tryz.prog e66 := VL_ok (TabOk.of tryT_ok) (gamC q68_ok Tryz.call68 (gamN _ _))
noncomputable def q66 : Orc := cR e66 a66 20 Tryz.f66
theorem q66_ok : OrcOK NN Tryz.prog 66 q66 := cR_ok e66_ok rfl Tryz.func66 (by kernel_rfl)
def a15 : Ann := { head := ptOf [], shut := true }
end Go.Abs
