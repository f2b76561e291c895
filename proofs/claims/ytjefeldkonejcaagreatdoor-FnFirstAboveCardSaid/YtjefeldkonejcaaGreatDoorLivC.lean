/-
  A PART OF THE PROOF of AbI (texts LivC): the claim itself stands in the last text. No conditions beside those of the given row.
-/
import Derived.Test.YtjefeldkonejcaaGreatDoorGeoA
set_option linter.unusedVariables false
set_option linter.unnecessarySimpa false
set_option linter.unusedSimpArgs false
namespace Go.Abs
open Go.Proofs
set_option maxRecDepth 100000
def a61 : Ann := { head := ptOf [(2, [5, 6, 7], [])], shut := true }
noncomputable def e61 : Env := VL tryT [] [(21, qOkO)]
theorem e61_ok : EnvOK NN Tryz.prog e61 := VL_ok (TabOk.of tryT_ok) (gamC (orc83 NN) Tryz.call21 (gamN _ _))
noncomputable def q61 : Orc := cR e61 a61 20 Tryz.f71
theorem q61_ok : OrcOK NN Tryz.prog 71 q61 := cR_ok e61_ok rfl Tryz.func71 (by kernel_rfl)
def a136 : Ann := { head := ptOf [], shut := true }
noncomputable def e136 : Env := VL tryT [] [(71, q61)]
theorem e136_ok : EnvOK NN Tryz.prog e136 := VL_ok (TabOk.of tryT_ok) (gamC q61_ok Tryz.call71 (gamN _ _))
noncomputable def q136 : Orc := cR e136 a136 20 Tryz.f47
theorem q136_ok : OrcOK NN Tryz.prog 47 q136 := cR_ok e136_ok rfl Tryz.func47 (by kernel_rfl)
def a156 : Ann := { head := ptOf [(2, [5, 6, 7], [])], shut := true }
noncomputable def e156 : Env := VL tryT [] [(47, q136)]
theorem e156_ok : EnvOK NN Tryz.prog e156 := VL_ok (TabOk.of tryT_ok) (gamC q136_ok Tryz.call47 (gamN _ _))
noncomputable def q156 : Orc := cR e156 a156 20 Tryz.f74
theorem q156_ok : OrcOK NN Tryz.prog 74 q156 := cR_ok e156_ok rfl Tryz.func74 (by kernel_rfl)
def a243 : Ann := { head := ptOf [(3, [3, 7, 8, 9], [])], shut := true }
noncomputable def e243 : Env := VL tryT [] [(50, vO 0)]
theorem e243_ok : EnvOK NN Tryz.prog e243 := VL_ok (TabOk.of tryT_ok) (gamC orc135 Tryz.call50 (gamN _ _))
noncomputable def q243 : Orc := cR e243 a243 20 Tryz.f145
theorem q243_ok : OrcOK NN Tryz.prog 145 q243 := cR_ok e243_ok rfl Tryz.func145 (by kernel_rfl)
def a161 : Ann := { head := ptOf [(3, [3, 8, 9, 10], [])], shut := true }
noncomputable def e161 : Env := VL tryT [] [(145, q243)]
theorem e161_ok : EnvOK NN Tryz.prog e161 := VL_ok (TabOk.of tryT_ok) (gamC q243_ok Tryz.call145 (gamN _ _))
noncomputable def q161 : Orc := cR e161 a161 20 Tryz.f79
theorem q161_ok : OrcOK NN Tryz.prog 79 q161 := cR_ok e161_ok rfl Tryz.func79 (by kernel_rfl)
def a267 : Ann := { head := ptOf [], shut := true }
noncomputable def e267 : Env := VL tryT [] [(51, rat2 (fun p q => szQ p && szQ q) fun p q => one (.int .i64 (cmpQ p q)))]
theorem e267_ok : EnvOK NN Tryz.prog e267 := VL_ok (TabOk.of tryT_ok) (gamC orc58 Tryz.call51 (gamN _ _))
noncomputable def q267 : Orc := cR e267 a267 20 Tryz.f181
theorem q267_ok : OrcOK NN Tryz.prog 181 q267 := cR_ok e267_ok rfl Tryz.func181 (by kernel_rfl)
def a224 : Ann := { head := ptOf [], shut := true }
noncomputable def e224 : Env := VL tryT [] [(181, q267), (51, rat2 (fun p q => szQ p && szQ q) fun p q => one (.int .i64 (cmpQ p q)))]
theorem e224_ok : EnvOK NN Tryz.prog e224 := VL_ok (TabOk.of tryT_ok) (gamC q267_ok Tryz.call181 (gamC orc58 Tryz.call51 (gamN _ _)))
noncomputable def q224 : Orc := cR e224 a224 20 Tryz.f122
theorem q224_ok : OrcOK NN Tryz.prog 122 q224 := cR_ok e224_ok rfl Tryz.func122 (by kernel_rfl)
def a227 : Ann := { head := ptOf [], shut := true }
noncomputable def e227 : Env := VL tryT [] [(61, pt2 0 fun a b c d => one (.int .i64 (cmpP a b c d)))]
theorem e227_ok : EnvOK NN Tryz.prog e227 := VL_ok (TabOk.of tryT_ok) (gamC orc98 Tryz.call61 (gamN _ _))
noncomputable def q227 : Orc := cR e227 a227 20 Tryz.f103
theorem q227_ok : OrcOK NN Tryz.prog 103 q227 := cR_ok e227_ok rfl Tryz.func103 (by kernel_rfl)
def a148 : Ann := { head := ptOf [], shut := true }
noncomputable def e148 : Env := VL tryT [] [(126, pt2 0 fun a b c d => pS 0 (a - c) (b - d))]
theorem e148_ok : EnvOK NN Tryz.prog e148 := VL_ok (TabOk.of tryT_ok) (gamC orc36 Tryz.call126 (gamN _ _))
noncomputable def q148 : Orc := cR e148 a148 20 Tryz.f124
theorem q148_ok : OrcOK NN Tryz.prog 124 q148 := cR_ok e148_ok rfl Tryz.func124 (by kernel_rfl)
def a225 : Ann := { head := ptOf [], shut := true }
noncomputable def e225 : Env := VL tryT [] [(106, rat2 (fun p q => szQ p && szQ q) fun p q => nm 0 (p * q)), (105, rat2 (fun p q => szQ p && szQ q) fun p q => nm 0 (p - q))]
theorem e225_ok : EnvOK NN Tryz.prog e225 := VL_ok (TabOk.of tryT_ok) (gamC orc60 Tryz.call106 (gamC orc37 Tryz.call105 (gamN _ _)))
noncomputable def q225 : Orc := cR e225 a225 20 Tryz.f125
theorem q225_ok : OrcOK NN Tryz.prog 125 q225 := cR_ok e225_ok rfl Tryz.func125 (by kernel_rfl)
def a153 : Ann := { head := ptOf [], shut := true }
noncomputable def e153 : Env := VL tryT [] [(126, pt2 0 fun a b c d => pS 0 (a - c) (b - d)), (125, q225), (108, rat1 szQ fun q => one (.int .i64 (Int.sign q.num)))]
theorem e153_ok : EnvOK NN Tryz.prog e153 := VL_ok (TabOk.of tryT_ok) (gamC orc36 Tryz.call126 (gamC q225_ok Tryz.call125 (gamC orc88 Tryz.call108 (gamN _ _))))
noncomputable def q153 : Orc := cR e153 a153 20 Tryz.f123
theorem q153_ok : OrcOK NN Tryz.prog 123 q153 := cR_ok e153_ok rfl Tryz.func123 (by kernel_rfl)
def a303 : Ann := { head := ptOf [], shut := true }
noncomputable def e303 : Env := VL tryT [] [(73, rat2 (fun p q => szQ p && szQ q) fun p q => nm 0 (p + q)), (106, rat2 (fun p q => szQ p && szQ q) fun p q => nm 0 (p * q))]
theorem e303_ok : EnvOK NN Tryz.prog e303 := VL_ok (TabOk.of tryT_ok) (gamC orc59 Tryz.call73 (gamC orc60 Tryz.call106 (gamN _ _)))
noncomputable def q303 : Orc := cR e303 a303 20 Tryz.f232
theorem q303_ok : OrcOK NN Tryz.prog 232 q303 := cR_ok e303_ok rfl Tryz.func232 (by kernel_rfl)
def a278 : Ann := { head := ptOf [], shut := true }
noncomputable def e278 : Env := VL tryT [] [(232, q303)]
theorem e278_ok : EnvOK NN Tryz.prog e278 := VL_ok (TabOk.of tryT_ok) (gamC q303_ok Tryz.call232 (gamN _ _))
noncomputable def q278 : Orc := cR e278 a278 20 Tryz.f203
theorem q278_ok : OrcOK NN Tryz.prog 203 q278 := cR_ok e278_ok rfl Tryz.func203 (by kernel_rfl)
def a242 : Ann := { head := ptOf [], shut := true }
noncomputable def e242 : Env := VL tryT [] [(51, rat2 (fun p q => szQ p && szQ q) fun p q => one (.int .i64 (cmpQ p q)))]
theorem e242_ok : EnvOK NN Tryz.prog e242 := VL_ok (TabOk.of tryT_ok) (gamC orc58 Tryz.call51 (gamN _ _))
noncomputable def q242 : Orc := cR e242 a242 20 Tryz.f104
theorem q242_ok : OrcOK NN Tryz.prog 104 q242 := cR_ok e242_ok rfl Tryz.func104 (by kernel_rfl)
def a132 : Ann := { head := ptOf [], shut := true }
noncomputable def e132 : Env := VL tryT [] [(122, q224), (124, q148), (125, q225), (126, pt2 0 fun a b c d => pS 0 (a - c) (b - d)), (108, rat1 szQ fun q => one (.int .i64 (Int.sign q.num))), (103, q227), (61, pt2 0 fun a b c d => one (.int .i64 (cmpP a b c d))), (107, rat2 (fun p q => szQ p && szQ q && decide (q ≠ 0)) fun p q => nm 0 (p / q)), (33, intO 0), (51, rat2 (fun p q => szQ p && szQ q) fun p q => one (.int .i64 (cmpQ p q))), (128, pt1 0 fun a b c => pS 0 (a * c) (b * c)), (127, pt2 0 fun a b c d => pS 0 (a + c) (b + d))]
theorem e132_ok : EnvOK NN Tryz.prog e132 := VL_ok (TabOk.of tryT_ok) (gamC q224_ok Tryz.call122 (gamC q148_ok Tryz.call124 (gamC q225_ok Tryz.call125 (gamC orc36 Tryz.call126 (gamC orc88 Tryz.call108 (gamC q227_ok Tryz.call103 (gamC orc98 Tryz.call61 (gamC orc90 Tryz.call107 (gamC orc57 Tryz.call33 (gamC orc58 Tryz.call51 (gamC orc85 Tryz.call128 (gamC orc89 Tryz.call127 (gamN _ _)))))))))))))
noncomputable def q132 : Orc := cR e132 a132 20 Tryz.f62
theorem q132_ok : OrcOK NN Tryz.prog 62 q132 := cR_ok e132_ok rfl Tryz.func62 (by kernel_rfl)
def a239 : Ann := { head := ptOf [(2, [0, 1, 5], [])], shut := true }
noncomputable def e239 : Env := VL tryT [] [(61, pt2 0 fun a b c d => one (.int .i64 (cmpP a b c d)))]
theorem e239_ok : EnvOK NN Tryz.prog e239 := VL_ok (TabOk.of tryT_ok) (gamC orc98 Tryz.call61 (gamN _ _))
noncomputable def q239 : Orc := cR e239 a239 20 Tryz.f142
theorem q239_ok : OrcOK NN Tryz.prog 142 q239 := cR_ok e239_ok rfl Tryz.func142 (by kernel_rfl)
def a268 : Ann := { head := ptOf [], shut := true }
noncomputable def e268 : Env := VL tryT [] [(216, rat1 keyG keyF)]
theorem e268_ok : EnvOK NN Tryz.prog e268 := VL_ok (TabOk.of tryT_ok) (gamC q287_ok Tryz.call216 (gamN _ _))
noncomputable def q268 : Orc := cR e268 a268 20 Tryz.f192
theorem q268_ok : OrcOK NN Tryz.prog 192 q268 := cR_ok e268_ok rfl Tryz.func192 (by kernel_rfl)
def a288 : Ann := { head := ptOf [], shut := true }
noncomputable def e288 : Env := VL tryT [] [(125, q225), (108, rat1 szQ fun q => one (.int .i64 (Int.sign q.num))), (194, pt2 0 fun a b c d => nm 0 (a * c + b * d))]
theorem e288_ok : EnvOK NN Tryz.prog e288 := VL_ok (TabOk.of tryT_ok) (gamC q225_ok Tryz.call125 (gamC orc88 Tryz.call108 (gamC orc87 Tryz.call194 (gamN _ _))))
noncomputable def q288 : Orc := cR e288 a288 20 Tryz.f217
theorem q288_ok : OrcOK NN Tryz.prog 217 q288 := cR_ok e288_ok rfl Tryz.func217 (by kernel_rfl)
def a269 : Ann := { head := ptOf [], shut := true }
noncomputable def e269 : Env := VL tryT [] [(125, q225), (108, rat1 szQ fun q => one (.int .i64 (Int.sign q.num))), (217, q288)]
theorem e269_ok : EnvOK NN Tryz.prog e269 := VL_ok (TabOk.of tryT_ok) (gamC q225_ok Tryz.call125 (gamC orc88 Tryz.call108 (gamC q288_ok Tryz.call217 (gamN _ _))))
noncomputable def q269 : Orc := cR e269 a269 20 Tryz.f193
theorem q269_ok : OrcOK NN Tryz.prog 193 q269 := cR_ok e269_ok rfl Tryz.func193 (by kernel_rfl)
def a160 : Ann := { head := ptOf [(6, [1, 5, 7, 11, 12, 13, 18, 19], []), (3, [1, 5, 11, 12, 13], [])], shut := true }
noncomputable def e160 : Env := VL tryT [] [(61, pt2 0 fun a b c d => one (.int .i64 (cmpP a b c d)))]
theorem e160_ok : EnvOK NN Tryz.prog e160 := VL_ok (TabOk.of tryT_ok) (gamC orc98 Tryz.call61 (gamN _ _))
noncomputable def q160 : Orc := cR e160 a160 20 Tryz.f78
theorem q160_ok : OrcOK NN Tryz.prog 78 q160 := cR_ok e160_ok rfl Tryz.func78 (by kernel_rfl)
def a281 : Ann := { head := ptOf [], shut := true }
noncomputable def e281 : Env := VL tryT [] []
theorem e281_ok : EnvOK NN Tryz.prog e281 := VL_ok (TabOk.of tryT_ok) (gamN _ _)
noncomputable def q281 : Orc := cR e281 a281 20 Tryz.f188
theorem q281_ok : OrcOK NN Tryz.prog 188 q281 := cR_ok e281_ok rfl Tryz.func188 (by kernel_rfl)
def a301 : Ann := { head := ptOf [], shut := true }
noncomputable def e301 : Env := VL tryT [] [(188, q281)]
theorem e301_ok : EnvOK NN Tryz.prog e301 := VL_ok (TabOk.of tryT_ok) (gamC q281_ok Tryz.call188 (gamN _ _))
noncomputable def q301 : Orc := cR e301 a301 20 Tryz.f230
theorem q301_ok : OrcOK NN Tryz.prog 230 q301 := cR_ok e301_ok rfl Tryz.func230 (by kernel_rfl)
def a275 : Ann := { head := ptOf [], shut := true }
noncomputable def e275 : Env := VL tryT [] [(51, rat2 (fun p q => szQ p && szQ q) fun p q => one (.int .i64 (cmpQ p q)))]
theorem e275_ok : EnvOK NN Tryz.prog e275 := VL_ok (TabOk.of tryT_ok) (gamC orc58 Tryz.call51 (gamN _ _))
noncomputable def q275 : Orc := cR e275 a275 20 Tryz.f200
theorem q275_ok : OrcOK NN Tryz.prog 200 q275 := cR_ok e275_ok rfl Tryz.func200 (by kernel_rfl)
def a300 : Ann := { head := ptOf [], shut := true }
noncomputable def e300 : Env := VL tryT [] [(200, q275)]
theorem e300_ok : EnvOK NN Tryz.prog e300 := VL_ok (TabOk.of tryT_ok) (gamC q275_ok Tryz.call200 (gamN _ _))
noncomputable def q300 : Orc := cR e300 a300 20 Tryz.f229
theorem q300_ok : OrcOK NN Tryz.prog 229 q300 := cR_ok e300_ok rfl Tryz.func229 (by kernel_rfl)
def a277 : Ann := { head := ptOf [], shut := true }
noncomputable def e277 : Env := VL tryT [] [(61, pt2 0 fun a b c d => one (.int .i64 (cmpP a b c d)))]
theorem e277_ok : EnvOK NN Tryz.prog e277 := VL_ok (TabOk.of tryT_ok) (gamC orc98 Tryz.call61 (gamN _ _))
noncomputable def q277 : Orc := cR e277 a277 20 Tryz.f202
theorem q277_ok : OrcOK NN Tryz.prog 202 q277 := cR_ok e277_ok rfl Tryz.func202 (by kernel_rfl)
def a238 : Ann := { head := ptOf [], shut := true }
noncomputable def e238 : Env := VL tryT [] [(142, q239)]
theorem e238_ok : EnvOK NN Tryz.prog e238 := VL_ok (TabOk.of tryT_ok) (gamC q239_ok Tryz.call142 (gamN _ _))
noncomputable def q238 : Orc := cR e238 a238 20 Tryz.f141
theorem q238_ok : OrcOK NN Tryz.prog 141 q238 := cR_ok e238_ok rfl Tryz.func141 (by kernel_rfl)
def a298 : Ann := { head := ptOf [(5, [1, 2, 3, 6, 7], []), (2, [1, 2, 3, 6], [])], shut := true }
noncomputable def e298 : Env := VL tryT [] [(229, q300), (202, q277), (141, q238)]
theorem e298_ok : EnvOK NN Tryz.prog e298 := VL_ok (TabOk.of tryT_ok) (gamC q300_ok Tryz.call229 (gamC q277_ok Tryz.call202 (gamC q238_ok Tryz.call141 (gamN _ _))))
noncomputable def q298 : Orc := cR e298 a298 20 Tryz.f227
theorem q298_ok : OrcOK NN Tryz.prog 227 q298 := cR_ok e298_ok rfl Tryz.func227 (by kernel_rfl)
def a302 : Ann := { head := ptOf [(3, [1, 2, 3, 4, 8, 9], [])], shut := true }
noncomputable def e302 : Env := VL tryT [] [(227, q298)]
theorem e302_ok : EnvOK NN Tryz.prog e302 := VL_ok (TabOk.of tryT_ok) (gamC q298_ok Tryz.call227 (gamN _ _))
noncomputable def q302 : Orc := cR e302 a302 20 Tryz.f231
theorem q302_ok : OrcOK NN Tryz.prog 231 q302 := cR_ok e302_ok rfl Tryz.func231 (by kernel_rfl)
def a272 : Ann := { head := ptOf [(10, [1, 2, 4, 5, 6], []), (8, [1, 2, 4], []), (3, [1, 2, 4, 5, 6], [])], shut := true }
noncomputable def e272 : Env := VL tryT [] [(227, q298)]
theorem e272_ok : EnvOK NN Tryz.prog e272 := VL_ok (TabOk.of tryT_ok) (gamC q298_ok Tryz.call227 (gamN _ _))
noncomputable def q272 : Orc := cR e272 a272 20 Tryz.f197
theorem q272_ok : OrcOK NN Tryz.prog 197 q272 := cR_ok e272_ok rfl Tryz.func197 (by kernel_rfl)
def a276 : Ann := { head := ptOf [], shut := true }
noncomputable def e276 : Env := VL tryT [] [(230, q301), (231, q302)]
theorem e276_ok : EnvOK NN Tryz.prog e276 := VL_ok (TabOk.of tryT_ok) (gamC q301_ok Tryz.call230 (gamC q302_ok Tryz.call231 (gamN _ _)))
noncomputable def q276 : Orc := cR e276 a276 20 Tryz.f201
theorem q276_ok : OrcOK NN Tryz.prog 201 q276 := cR_ok e276_ok rfl Tryz.func201 (by kernel_rfl)
def a237 : Ann := { head := ptOf [], shut := true }
noncomputable def e237 : Env := VL tryT [] [(197, q272)]
theorem e237_ok : EnvOK NN Tryz.prog e237 := VL_ok (TabOk.of tryT_ok) (gamC q272_ok Tryz.call197 (gamN _ _))
noncomputable def q237 : Orc := cR e237 a237 20 Tryz.f140
theorem q237_ok : OrcOK NN Tryz.prog 140 q237 := cR_ok e237_ok rfl Tryz.func140 (by kernel_rfl)
def a274 : Ann := { head := ptOf [(3, [3, 5, 10, 11], [])], shut := true }
noncomputable def e274 : Env := VL tryT [] [(140, q237)]
theorem e274_ok : EnvOK NN Tryz.prog e274 := VL_ok (TabOk.of tryT_ok) (gamC q237_ok Tryz.call140 (gamN _ _))
noncomputable def q274 : Orc := cR e274 a274 20 Tryz.f199
theorem q274_ok : OrcOK NN Tryz.prog 199 q274 := cR_ok e274_ok rfl Tryz.func199 (by kernel_rfl)
def a240 : Ann := { head := ptOf [(38, [4, 20, 21, 25, 26, 198, 199, 200], []), (32, [4, 20, 21, 198, 199, 200], []), (17, [0, 3, 4, 5, 12, 13, 14, 15], []), (13, [0, 3, 4, 5, 12, 13], []), (5, [0, 3, 4, 5, 36, 37, 38], [])], shut := true }
noncomputable def e240 : Env := VL tryT [130, 245] [(181, q267), (199, q274), (51, rat2 (fun p q => szQ p && szQ q) fun p q => one (.int .i64 (cmpQ p q))), (62, q132), (103, q227), (201, q276), (61, pt2 0 fun a b c d => one (.int .i64 (cmpP a b c d))), (192, q268)]
theorem e240_ok : EnvOK NN Tryz.prog e240 := VL_ok (TabOk.of tryT_ok) (gamC q267_ok Tryz.call181 (gamC q274_ok Tryz.call199 (gamC orc58 Tryz.call51 (gamC q132_ok Tryz.call62 (gamC q227_ok Tryz.call103 (gamC q276_ok Tryz.call201 (gamC orc98 Tryz.call61 (gamC q268_ok Tryz.call192 (gamN _ _)))))))))
noncomputable def q240 : Orc := cR e240 a240 20 Tryz.f143
theorem q240_ok : OrcOK NN Tryz.prog 143 q240 := cR_ok e240_ok rfl Tryz.func143 (by kernel_rfl)
def a241 : Ann := { head := ptOf [(8, [3, 4, 10, 11, 49, 50, 51], []), (4, [1, 2, 3, 4, 10, 11, 12], [])] }
noncomputable def e241 : Env := VL tryT [] [(203, q278), (104, q242), (51, rat2 (fun p q => szQ p && szQ q) fun p q => one (.int .i64 (cmpQ p q))), (181, q267), (105, rat2 (fun p q => szQ p && szQ q) fun p q => nm 0 (p - q)), (106, rat2 (fun p q => szQ p && szQ q) fun p q => nm 0 (p * q)), (73, rat2 (fun p q => szQ p && szQ q) fun p q => nm 0 (p + q)), (108, rat1 szQ fun q => one (.int .i64 (Int.sign q.num)))]
theorem e241_ok : EnvOK NN Tryz.prog e241 := VL_ok (TabOk.of tryT_ok) (gamC q278_ok Tryz.call203 (gamC q242_ok Tryz.call104 (gamC orc58 Tryz.call51 (gamC q267_ok Tryz.call181 (gamC orc37 Tryz.call105 (gamC orc60 Tryz.call106 (gamC orc59 Tryz.call73 (gamC orc88 Tryz.call108 (gamN _ _)))))))))
noncomputable def q241 : Orc := cR e241 a241 20 Tryz.f144
theorem q241_ok : OrcOK NN Tryz.prog 144 q241 := cR_ok e241_ok rfl Tryz.func144 (by kernel_rfl)
def a162 : Ann := { head := ptOf [], shut := true }
noncomputable def e162 : Env := VL tryT [] []
theorem e162_ok : EnvOK NN Tryz.prog e162 := VL_ok (TabOk.of tryT_ok) (gamN _ _)
noncomputable def q162 : Orc := cR e162 a162 20 Tryz.f80
theorem q162_ok : OrcOK NN Tryz.prog 80 q162 := cR_ok e162_ok rfl Tryz.func80 (by kernel_rfl)
def a159 : Ann := { head := ptOf [(8, [0, 1, 2, 7, 8, 9, 10, 12, 25, 26, 27, 38, 39], []), (4, [0, 1, 2, 7, 8, 9, 10, 25, 26, 27], [])], shut := true }
def a235 : Ann := { head := ptOf [(22, [0, 3, 7, 8, 10, 12, 13, 41, 42, 85, 86, 87], []), (16, [0, 3, 7, 8, 10, 11, 41, 42], []), (11, [0, 3, 7, 8, 41, 42], []), (3, [0, 3, 17, 18, 19], [])], shut := true }
noncomputable def e235 : Env := VL tryT [] [(192, q268), (126, pt2 0 fun a b c d => pS 0 (a - c) (b - d)), (124, q148), (193, q269)]
theorem e235_ok : EnvOK NN Tryz.prog e235 := VL_ok (TabOk.of tryT_ok) (gamC q268_ok Tryz.call192 (gamC orc36 Tryz.call126 (gamC q148_ok Tryz.call124 (gamC q269_ok Tryz.call193 (gamN _ _)))))
noncomputable def q235 : Orc := cR e235 a235 20 Tryz.f138
theorem q235_ok : OrcOK NN Tryz.prog 138 q235 := cR_ok e235_ok rfl Tryz.func138 (by kernel_rfl)
def a236 : Ann := { head := ptOf [(12, [4, 9, 62, 63], []), (4, [0, 3, 4, 16, 17], [])], shut := true }
noncomputable def e236 : Env := VL tryT [] [(123, q153), (126, pt2 0 fun a b c d => pS 0 (a - c) (b - d)), (194, pt2 0 fun a b c d => nm 0 (a * c + b * d)), (108, rat1 szQ fun q => one (.int .i64 (Int.sign q.num))), (61, pt2 0 fun a b c d => one (.int .i64 (cmpP a b c d))), (142, q239)]
theorem e236_ok : EnvOK NN Tryz.prog e236 := VL_ok (TabOk.of tryT_ok) (gamC q153_ok Tryz.call123 (gamC orc36 Tryz.call126 (gamC orc87 Tryz.call194 (gamC orc88 Tryz.call108 (gamC orc98 Tryz.call61 (gamC q239_ok Tryz.call142 (gamN _ _)))))))
noncomputable def q236 : Orc := cR e236 a236 20 Tryz.f139
theorem q236_ok : OrcOK NN Tryz.prog 139 q236 := cR_ok e236_ok rfl Tryz.func139 (by kernel_rfl)
def a158 : Ann := { head := ptOf [(3, [3, 8, 9, 10], [])], shut := true }
def a234 : Ann := { head := ptOf [(3, [3, 6, 7, 8], [])], shut := true }
noncomputable def e234 : Env := VL tryT [] []
theorem e234_ok : EnvOK NN Tryz.prog e234 := VL_ok (TabOk.of tryT_ok) (gamN _ _)
noncomputable def q234 : Orc := cR e234 a234 20 Tryz.f137
theorem q234_ok : OrcOK NN Tryz.prog 137 q234 := cR_ok e234_ok rfl Tryz.func137 (by kernel_rfl)
def a157 : Ann := { head := ptOf [(9, [4, 6, 9, 20, 21, 22, 27, 28, 29], []), (5, [4, 6, 20, 21, 22], [])], shut := true }
noncomputable def e157 : Env := VL tryT [] [(137, q234), (52, toV 0)]
theorem e157_ok : EnvOK NN Tryz.prog e157 := VL_ok (TabOk.of tryT_ok) (gamC q234_ok Tryz.call137 (gamC orc103 Tryz.call52 (gamN _ _)))
noncomputable def q157 : Orc := cR e157 a157 20 Tryz.f75
theorem q157_ok : OrcOK NN Tryz.prog 75 q157 := cR_ok e157_ok rfl Tryz.func75 (by kernel_rfl)
def a65 : Ann := { head := ptOf [(3, [0, 2, 4, 7, 8, 9], [])], shut := true }
def a244 : Ann := { head := ptOf [(9, [0, 1, 5, 13, 14, 32, 33], []), (4, [0, 1, 13, 14], [])], shut := true }
noncomputable def e244 : Env := VL tryT [] []
theorem e244_ok : EnvOK NN Tryz.prog e244 := VL_ok (TabOk.of tryT_ok) (gamN _ _)
noncomputable def q244 : Orc := cR e244 a244 20 Tryz.f146
theorem q244_ok : OrcOK NN Tryz.prog 146 q244 := cR_ok e244_ok rfl Tryz.func146 (by kernel_rfl)
def a163 : Ann := { head := ptOf [], shut := true }
def a164 : Ann := { head := ptOf [(6, [2, 3, 5, 8, 9, 10, 15, 16], []), (3, [2, 3, 8, 9, 10], [])], shut := true }
noncomputable def e164 : Env := VL tryT [] [(33, intO 0), (125, q225), (73, rat2 (fun p q => szQ p && szQ q) fun p q => nm 0 (p + q))]
theorem e164_ok : EnvOK NN Tryz.prog e164 := VL_ok (TabOk.of tryT_ok) (gamC orc57 Tryz.call33 (gamC q225_ok Tryz.call125 (gamC orc59 Tryz.call73 (gamN _ _))))
noncomputable def q164 : Orc := cR e164 a164 20 Tryz.f82
theorem q164_ok : OrcOK NN Tryz.prog 82 q164 := cR_ok e164_ok rfl Tryz.func82 (by kernel_rfl)
def a67 : Ann := { head := ptOf [], shut := true }
def a14 : Ann := { head := ptOf [], shut := true }
noncomputable def e14 : Env := VL tryT [] [(71, q61), (72, qO 0), (73, rat2 (fun p q => szQ p && szQ q) fun p q => nm 0 (p + q)), (39, rat1 (fun _ => true) tupQ)]
theorem e14_ok : EnvOK NN Tryz.prog e14 := VL_ok (TabOk.of tryT_ok) (gamC q61_ok Tryz.call71 (gamC orc86 Tryz.call72 (gamC orc59 Tryz.call73 (gamC orc41 Tryz.call39 (gamN _ _)))))
noncomputable def q14 : Orc := cR e14 a14 20 Tryz.f25
theorem q14_ok : OrcOK NN Tryz.prog 25 q14 := cR_ok e14_ok rfl Tryz.func25 (by kernel_rfl)
def a68 : Ann := { head := ptOf [], shut := true }
noncomputable def e68 : Env := VL tryT [] []
theorem e68_ok : EnvOK NN Tryz.prog e68 := VL_ok (TabOk.of tryT_ok) (gamN _ _)
noncomputable def q68 : Orc := cR e68 a68 20 Tryz.f29
theorem q68_ok : OrcOK NN Tryz.prog 29 q68 := cR_ok e68_ok rfl Tryz.func29 (by kernel_rfl)
def a66 : Ann := { head := ptOf [], shut := true }
noncomputable def e66 : Env := VL tryT [] [(29, q68)]
theorem e66_ok : EnvOK NN Tryz.prog e66 := VL_ok (TabOk.of tryT_ok) (gamC q68_ok Tryz.call29 (gamN _ _))
noncomputable def q66 : Orc := cR e66 a66 20 Tryz.f27
theorem q66_ok : OrcOK NN Tryz.prog 27 q66 := cR_ok e66_ok rfl Tryz.func27 (by kernel_rfl)
def a15 : Ann := { head := ptOf [], shut := true }
end Go.Abs
